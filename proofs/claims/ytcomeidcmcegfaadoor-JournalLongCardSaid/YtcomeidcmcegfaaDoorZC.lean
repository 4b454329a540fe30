/-
  Facts of this translation's own tables that many walks use. Conditions: none.
  Facts of this translation's own tables on bytes and strings that many walks use. Conditions: none.
-/
import Derived.Test.YtcomeidcmcegfaaDoorRows
import Derived.Test.YtcomeidcmcegfaaDoorBase
namespace Go.Proofs.YtcomeidcmcegfaaDoor
open Go.RowKit
set_option linter.unusedVariables false

theorem info_u8 : (Tryd.prog.info? 5).map (fun i => (i.zero, i.size, i.bytes)) = some (some (.int .u8 0), 1, 1) := by kernel_rfl
theorem info_int : (Tryd.prog.info? 3).map (fun i => (i.zero, i.size, i.bytes)) = some (some (.int .i64 0), 1, 8) := by kernel_rfl
end Go.Proofs.YtcomeidcmcegfaaDoor

namespace Go.Proofs.YtcomeidcmcegfaaDoor
open Go.RowKit
set_option linter.unusedVariables false

/-- 'string(b)' of bytes that read as l -/
theorem str_of (w : World) (A : Option Addr) (c : Nat) (l : List UInt8) (h : Rd w A (l.map U8)) :
    (convert 25 9 (.slice A l.length c)).run Tryd.prog w = .ok (.string ⟨l.toArray⟩) w :=
  run_str w _ _ _ Tryd.underlying25 Tryd.underlying5 Tryd.underlying9 A c l h
theorem str_one (w : World) (n : Int) (h : 0 ≤ n) (h' : n < 256) :
    (convert 25 9 (.slice (some ⟨w.heap.size, 0, none⟩) 1 1)).run Tryd.prog (w.alloc (.cells #[.int .u8 n] 5)) =
      .ok (.string ⟨#[UInt8.ofNat n.toNat]⟩) (w.alloc (.cells #[.int .u8 n] 5)) :=
  str_of _ _ 1 [UInt8.ofNat n.toNat] (by
    intro _
    refine ⟨_, 0, rfl, by simp, fun j u hu => ?_⟩
    rw [Nat.zero_add, cell_of_row _ _ _ _ _ _ (heap_alloc_new w _)]
    have e : ((UInt8.ofNat n.toNat).toNat : Int) = n := by
      rw [UInt8.toNat_ofNat']; omega
    rcases j with _ | j
    · have hu' : U8 (UInt8.ofNat n.toNat) = u := by simpa using hu
      rw [← hu', U8, e]; rfl
    · simp at hu)
end Go.Proofs.YtcomeidcmcegfaaDoor
