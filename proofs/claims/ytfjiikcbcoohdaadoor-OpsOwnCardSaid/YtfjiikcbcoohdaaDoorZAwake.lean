/-
  The example of the chapter, in plain Lean: an operation that adds a note, one that sets a field, their bytes. Conditions: none; no program in sight. The walk of few of the statements' package. Conditions: none. The walk of awake of the statements of layer 49. Conditions: utf8's tables lie as their initialisers lay them.
-/
import Derived.Test.YtfjiikcbcoohdaaDoorFromLaw
import Derived.KernelRfl
import Derived.Test.YtfjiikcbcoohdaaDoorOpsOver
import Derived.Test.YtfjiikcbcoohdaaDoorOpsWrites
import Derived.Test.YtfjiikcbcoohdaaDoorOpsFrom
import Derived.Test.YtfjiikcbcoohdaaDoorROpsCheck
import Derived.Test.YtfjiikcbcoohdaaDoorConv
import Derived.Deep.DeepCutAuto
import Derived.Lib.SlBytesConst

namespace Go.Proofs.YtfjiikcbcoohdaaDoor
open Go.RowKit
set_option linter.unusedVariables false

def exO : OP := ⟨2, 3, 0, 1, 35, 0, 0, 0, 0, 0, [97], 0, 0, [], []⟩
def exX : OP := ⟨3, 1, 1, 1, 35, 0, 0, 0, 0, 0, [], 2, 9, [], [(2, 3)]⟩
def exY : OP := ⟨3, 1, 1, 1, 35, 0, 0, 0, 0, 0, [], 2, 9, [], []⟩
def exB : List UInt8 := [4, 6, 0, 2, 70, 0, 0, 0, 0, 0, 2, 97, 0, 0, 0, 0]
theorem ex_c0 : checkE exO = 0 := by decide +kernel
theorem ex_c1 : checkE exX = 0 := by decide +kernel
theorem ex_c2 : checkE exY = 4 := by decide +kernel
theorem ex_b : bytesR exO = exB := by decide +kernel
theorem ex_e : fE exB = 0 := by decide +kernel
theorem exO_bd : exO.Bd := ⟨⟨by decide, by decide⟩, ⟨by decide, by decide⟩, ⟨by decide, by decide⟩, ⟨by decide, by decide⟩, ⟨by decide, by decide⟩, ⟨by decide, by decide⟩, ⟨by decide, by decide⟩, ⟨by decide, by decide⟩, ⟨by decide, by decide⟩, ⟨by decide, by decide⟩,
    ⟨by decide, by decide⟩, ⟨by decide, by decide⟩, by show 1 ≤ _; unfold maxLen; omega, by show 0 ≤ _; omega, (by intro p hp; cases hp), by show 0 ≤ _; omega⟩
theorem ex_r : fO exB = exO := by
  have h := from_only ex_e
  have hb : opB exO = exB := by have := ex_b; unfold bytesR at this; rwa [if_pos ex_c0] at this
  exact ((from_cut exO [] (opB exO).length exO_bd (by decide) exB (by rw [List.append_nil, List.take_length, hb])).2 (Nat.le_refl _)).1
theorem exX_bd : exX.Bd := ⟨⟨by decide, by decide⟩, ⟨by decide, by decide⟩, ⟨by decide, by decide⟩, ⟨by decide, by decide⟩, ⟨by decide, by decide⟩, ⟨by decide, by decide⟩, ⟨by decide, by decide⟩, ⟨by decide, by decide⟩, ⟨by decide, by decide⟩, ⟨by decide, by decide⟩,
    ⟨by decide, by decide⟩, ⟨by decide, by decide⟩, by show 0 ≤ _; omega, by show 0 ≤ _; omega, (by intro p hp; rcases List.mem_singleton.1 hp with rfl; exact ⟨⟨by decide, by decide⟩, ⟨by decide, by decide⟩⟩), by show 1 ≤ _; unfold maxLen; omega⟩
theorem exY_bd : exY.Bd := ⟨⟨by decide, by decide⟩, ⟨by decide, by decide⟩, ⟨by decide, by decide⟩, ⟨by decide, by decide⟩, ⟨by decide, by decide⟩, ⟨by decide, by decide⟩, ⟨by decide, by decide⟩, ⟨by decide, by decide⟩, ⟨by decide, by decide⟩, ⟨by decide, by decide⟩,
    ⟨by decide, by decide⟩, ⟨by decide, by decide⟩, by show 0 ≤ _; omega, by show 0 ≤ _; omega, (by intro p hp; cases hp), by show 0 ≤ _; omega⟩
end Go.Proofs.YtfjiikcbcoohdaaDoor

namespace Go.Proofs.YtfjiikcbcoohdaaDoor
open Go.RowKit
set_option linter.unusedVariables false

def fewB (o : OP) : Bool := decide (o.tx.length ≤ 400) && (decide (o.nt.length ≤ 400) && decide (o.ov.length ≤ 60))
theorem few_le {o : OP} (h : fewB o = true) : o.tx.length ≤ 400 ∧ o.nt.length ≤ 400 ∧ o.ov.length ≤ 60 := by
  unfold fewB at h
  simp only [Bool.and_eq_true, decide_eq_true_eq] at h
  exact h
set_option maxRecDepth 100000 in
set_option maxHeartbeats 4000000 in
theorem few_any (w : World) (o : OP) (A : Option Addr) (c : Nat) : Calls Tryd.prog 12 #[opV o A c] w (RetBool (fewB o) w) := by
  unfold opV opC
  have hb1 := Lib.hid (fun x => (Below.refl w.heap.size w).alloc (Nat.le_refl _) x)
  by_cases h0 : o.tx.length ≤ 400
  · have t0 : decide ((o.tx.length : Int) ≤ 400) = true := decide_eq_true (by omega)
    by_cases h1 : o.nt.length ≤ 400
    · have t1 : decide ((o.nt.length : Int) ≤ 400) = true := decide_eq_true (by omega)
      by_cases h2 : o.ov.length ≤ 60
      · have t2 : decide ((o.ov.length : Int) ≤ 60) = true := decide_eq_true (by omega)
        have HR : Hid (fewB o = true) := by rw [Hid, fewB, decide_eq_true h0, decide_eq_true h1, decide_eq_true h2]; rfl
        clear h0 h1 h2
        go_enter Tryd.func12, Tryd.ntmps12
        go_wp2_with fail
        go_ret
        exact ⟨by rw [HR.out]; rfl, hb1.out _⟩
      · have t2 : decide ((o.ov.length : Int) ≤ 60) = false := decide_eq_false (by omega)
        have HR : Hid (fewB o = false) := by rw [Hid, fewB, decide_eq_true h0, decide_eq_true h1, decide_eq_false h2]; rfl
        clear h0 h1 h2
        go_enter Tryd.func12, Tryd.ntmps12
        go_wp2_with fail
        go_ret
        exact ⟨by rw [HR.out]; rfl, hb1.out _⟩
    · have t1 : decide ((o.nt.length : Int) ≤ 400) = false := decide_eq_false (by omega)
      have HR : Hid (fewB o = false) := by rw [Hid, fewB, decide_eq_true h0, decide_eq_false h1]; rfl
      clear h0 h1
      go_enter Tryd.func12, Tryd.ntmps12
      go_wp2_with fail
      go_ret
      exact ⟨by rw [HR.out]; rfl, hb1.out _⟩
  · have t0 : decide ((o.tx.length : Int) ≤ 400) = false := decide_eq_false (by omega)
    have HR : Hid (fewB o = false) := by rw [Hid, fewB, decide_eq_false h0]; rfl
    clear h0
    go_enter Tryd.func12, Tryd.ntmps12
    go_wp2_with fail
    go_ret
    exact ⟨by rw [HR.out]; rfl, hb1.out _⟩
theorem few_is (w : World) {o : OP} {A : Option Addr} {c : Nat} {r : Bool} (h : fewB o = r) : Calls Tryd.prog 12 #[opV o A c] w (RetBool r w) := by
  subst h; exact few_any w o A c
end Go.Proofs.YtfjiikcbcoohdaaDoor

namespace Go.Proofs.YtfjiikcbcoohdaaDoor
open Go.RowKit
set_option linter.unusedVariables false
set_option linter.unusedSimpArgs false
theorem yields_row {P : Program} {ops : Array Oper} {S : World → Prop} {op : Oper} {a : Act} (hw : Region.wanted op (yielded ops a.tmps) = true) (ty : TypeId) (x : Operand) (ho : op.op = .load ty x)
    (g : Nat) (hx : a.eval x = .pointer (some ⟨g, 0, none⟩)) (t : TypeId) (c : Array Value) (d : TypeDesc) (hS : ∀ w, S w → Blk w g t c)
    (hu : P.underlying ty = some d) (hd : (match d with | .struct _ | .array _ _ => true | _ => false) = true) (hi : (P.info? ty).map (·.size) = some c.size) : YieldsIf P ops S op (.agg c) a :=
  .inl ⟨hw, fun w hw' => by
    have hrun := run_loadVar_row (P := P) w g t ty c (0, 0) d (hS w hw') hu hd hi
    unfold execOp
    simp only [ho, hx, Instr.loadAt, Instr.sureAddr, Sem.run_bind, Sem.run_pure, Result.andThen_ok, hrun]⟩
set_option maxRecDepth 100000 in
set_option maxHeartbeats 16000000 in
theorem awake_any (w : World) (hT : Tabs w) : Calls Tryd.prog 13 #[] w (RetBool true w) := by
  obtain ⟨wa, hwa⟩ : ∃ x, (((w.alloc (.cells (opC exO none 0).toArray 30)).alloc (.cells #[.int .i64 2, .int .i64 3] 23)).alloc (.cells (opC exX (some ⟨w.heap.size + 1, 0, none⟩) 1).toArray 30)).alloc (.cells (opC exY none 0).toArray 30) = x := ⟨_, rfl⟩
  have hO : Blk wa w.heap.size 30 (opC exO none 0).toArray := by
    rw [← hwa]; exact (((Blk.new w 30 (opC exO none 0).toArray).up (Up.alloc' _ _)).up (Up.alloc' _ _)).up (Up.alloc' _ _)
  have hX : Blk wa (w.heap.size + 1 + 1) 30 (opC exX (some ⟨w.heap.size + 1, 0, none⟩) 1).toArray := by
    have := Blk.new ((w.alloc (.cells (opC exO none 0).toArray 30)).alloc (.cells #[.int .i64 2, .int .i64 3] 23)) 30 (opC exX (some ⟨w.heap.size + 1, 0, none⟩) 1).toArray
    rw [World.size_alloc, World.size_alloc] at this
    rw [← hwa]; exact this.up (Up.alloc' _ _)
  have hY : Blk wa (w.heap.size + 1 + 1 + 1) 30 (opC exY none 0).toArray := by
    have := Blk.new (((w.alloc (.cells (opC exO none 0).toArray 30)).alloc (.cells #[.int .i64 2, .int .i64 3] 23)).alloc (.cells (opC exX (some ⟨w.heap.size + 1, 0, none⟩) 1).toArray 30)) 30 (opC exY none 0).toArray
    rw [World.size_alloc, World.size_alloc, World.size_alloc] at this
    rw [← hwa]; exact this
  have hR : Rd wa (some ⟨w.heap.size + 1, 0, none⟩) (ovL [(2, 3)]) := by
    have := Rd.newAt (w.alloc (.cells (opC exO none 0).toArray 30)) [.int .i64 2, .int .i64 3] 23 (0, 0) (w.heap.size + 1) (by simp)
    rw [← hwa]; exact ((this.alloc _).alloc _)
  have hbe : Below w.heap.size w wa := by
    rw [← hwa]; exact ((((Below.refl _ _).alloc (Nat.le_refl _) _).alloc (by simp) _).alloc (by simp; omega) _).alloc (by simp; omega) _
  have HWA := Lib.hid hwa
  clear hwa
  have hTa := hT.below hbe
  have kB : ∀ w', Up wa w' → Calls Tryd.prog 16 #[opV exO none 0] w' (RetBy exB 0 w') := fun w' u => by
    have := bytes_any w' exO none 0 exO_bd (Rd.nil _ _) (Nat.le_refl _) (hTa.below u.b)
    rwa [ex_b, ex_c0] at this
  have kF : ∀ (w' : World) A c, Up wa w' → Rd w' A (exB.map U8) → 16 ≤ c → Calls Tryd.prog 18 #[.slice A 16 c] w' (RetOp exO 0 w') := fun w' A c u hr hc => by
    have := from_any w' A c exB hr (by decide) hc (hTa.below u.b)
    rwa [fR_ok ex_e, ex_r, ex_e] at this
  have kO := fun (w' : World) (u : Up wa w') => check_any w' exO none 0 exO_bd (Rd.nil _ _) (Nat.le_refl _) (hTa.below u.b)
  have kX := fun (w' : World) (u : Up wa w') => check_any w' exX (some ⟨w.heap.size + 1, 0, none⟩) 1 exX_bd (hR.below u.b) (Nat.le_refl _) (hTa.below u.b)
  have kY := fun (w' : World) (u : Up wa w') => check_any w' exY none 0 exY_bd (Rd.nil _ _) (Nat.le_refl _) (hTa.below u.b)
  rw [ex_c0] at kO
  rw [ex_c1] at kX
  rw [ex_c2] at kY
  obtain ⟨⟨m0, m1, m2, m3⟩, ⟨m4, m5, m6, m7, m8, m9, m10⟩, ⟨m11, m12, m13, m14⟩⟩ := Blk.opAt hO
  dsimp only [exO] at m0 m1 m2 m3 m4 m5 m6 m7 m8 m9 m10 m11 m12 m13 m14
  go_enter Tryd.func13, Tryd.ntmps13
  go_upto_region 5 with fail
  have HWA' := HWA.out
  simp only [opC, exO, exX, exY, List.length_nil, List.length_cons, Nat.zero_add] at HWA'
  simp only [HWA']
  clear HWA HWA'
  unfold opV opC at kB
  dsimp only [exO, exX, exY, List.length_nil, List.length_cons, Nat.zero_add] at kB
  go_upto_region 6 with (go_at_call 16; refine (kB _ (Up.refl _)).mono ?_; rintro e w5 ⟨A4, c4, rfl, hown4, hb5⟩)
  have hr4 := hown4.rd'
  have hu5 := Up.of hb5
  clear m0 m1 m2 m3 m4 m5 m6 m7 m8 m9 m10 m11 m12 m13 m14 kB hown4
  have hrB : Rd (w5.alloc (.cells (exB.map U8).toArray 5 (16, 17))) (some ⟨w5.heap.size, 0, none⟩) (exB.map U8) := Rd.new _ _ _ _
  have kF := kF (w5.alloc (.cells (exB.map U8).toArray 5 (16, 17))) (some ⟨w5.heap.size, 0, none⟩) 16 (hu5.trans (Up.alloc' _ _)) hrB (Nat.le_refl _)
  have hu5b := hu5.trans (Up.alloc' w5 (.cells (exB.map U8).toArray 5 (16, 17)))
  have hr4b := hr4.alloc (.cells (exB.map U8).toArray 5 (16, 17))
  clear hrB
  generalize hWB : w5.alloc (.cells (exB.map U8).toArray 5 (16, 17)) = wB at *
  have HWB := Lib.hid hWB
  clear hWB
  have hcv : (convert 35 35 (.slice (some ⟨w5.heap.size, 0, none⟩) 16 16)).run Tryd.prog (w5.alloc (.cells #[.int .u8 4, .int .u8 6, .int .u8 0, .int .u8 2, .int .u8 70, .int .u8 0, .int .u8 0, .int .u8 0, .int .u8 0, .int .u8 0, .int .u8 2, .int .u8 97, .int .u8 0, .int .u8 0, .int .u8 0, .int .u8 0] 5)) = .ok (.slice (some ⟨w5.heap.size, 0, none⟩) 16 16) wB := by
    have := Lib.run_convert_bytes_const (P := Tryd.prog) w5 35 5 #[.int .u8 4, .int .u8 6, .int .u8 0, .int .u8 2, .int .u8 70, .int .u8 0, .int .u8 0, .int .u8 0, .int .u8 0, .int .u8 0, .int .u8 2, .int .u8 97, .int .u8 0, .int .u8 0, .int .u8 0, .int .u8 0] 16 16 Tryd.underlying35 Tryd.underlying5
    rw [this, ← HWB.out]; rfl
  go_wp2_with fail
  clear HWB hcv
  refine kF.mono ?_
  rintro e w6 ⟨A6, c6, rfl, -, hc6, hb6⟩
  have hu6 := hu5b.trans (Up.of hb6)
  have hr6 := hr4b.below hb6
  clear kF hb6 hr4b hu5b hu5 hr4
  obtain ⟨wx, hwx⟩ : ∃ x, w6.alloc (.cells (opC exO A6 c6).toArray 30) = x := ⟨_, rfl⟩
  have hP : Blk wx w6.heap.size 30 (opC exO A6 c6).toArray := by rw [← hwx]; exact Blk.new _ _ _
  have hux : Up wa wx := by rw [← hwx]; exact hu6.trans (Up.alloc' _ _)
  have hrx : Rd wx A4 (exB.map U8) := by rw [← hwx]; exact hr6.alloc _
  have HWX := Lib.hid hwx
  clear hwx hu6 hr6
  unfold opV opC
  dsimp only [exO, List.length_nil]
  go_upto_region 7 with fail
  have HWX' := HWX.out
  simp only [opC, exO, List.length_nil] at HWX'
  try simp only [HWX']
  clear HWX HWX'
  have hO := hO.up hux
  have hX := hX.up hux
  have hY := hY.up hux
  have k0 := fun w' (u : Up wx w') => kO w' (hux.trans u)
  have k1 := fun w' (u : Up wx w') => kX w' (hux.trans u)
  have k2 := fun w' (u : Up wx w') => kY w' (hux.trans u)
  have k3 := fun w' (u : Up wx w') => rsame_any w' exO exO A6 none c6 0 (Rd.nil _ _) (Rd.nil _ _) (by decide) (by decide)
  have k4 := fun w' (u : Up wx w') => oWrites_any w' exX (some ⟨w.heap.size + 1, 0, none⟩) 1 35 2
  have k5 := fun w' (u : Up wx w') => oWrites_any w' exX (some ⟨w.heap.size + 1, 0, none⟩) 1 35 0
  have k6 : ∀ w', Up wx w' → Calls Tryd.prog 23 #[opV exX (some ⟨w.heap.size + 1, 0, none⟩) 1, .int .i64 2] w' (RetVal (.agg #[.int .i64 3, .int .i64 1, .int .i64 9, .string ⟨#[]⟩]) w') := fun w' (u : Up wx w') => ovalue_any w' exX (some ⟨w.heap.size + 1, 0, none⟩) 1 2
  have k7 : ∀ w', Up wx w' → Calls Tryd.prog 23 #[opV exO none 0, .int .i64 0] w' (RetVal (.agg #[.int .i64 2, .int .i64 3, .int .i64 0, .string ⟨#[97]⟩]) w') := fun w' (u : Up wx w') => ovalue_any w' exO none 0 0
  have k8 := fun w' (u : Up wx w') => osame_any w' exO exO none A6 0 c6 (Rd.nil _ _) (Rd.nil _ _) (by decide) (by decide)
  rw [sameB_self] at k3 k8
  rw [show wrsB exX 35 2 = true by decide] at k4
  rw [show wrsB exX 35 0 = false by decide] at k5
  have hconv : ∀ w', Up wx w' → (convert 35 9 (.slice A4 exB.length c4)).run Tryd.prog w' = .ok (.string ⟨#[4, 6, 0, 2, 70, 0, 0, 0, 0, 0, 2, 97, 0, 0, 0, 0]⟩) w' := fun w' u => str_of w' A4 c4 exB (u.rd hrx)
  have s0 : ∀ w', Up wx w' → w'.cell? ⟨w.heap.size, 0, none⟩ = some (.int .i64 2) := fun w' u => u.cell (by rw [hO.cell]; rfl)
  have s1 : ∀ w', Up wx w' → w'.cell? ⟨w.heap.size, 1, none⟩ = some (.int .i64 3) := fun w' u => u.cell (by rw [hO.cell]; rfl)
  have s2 : ∀ w', Up wx w' → w'.cell? ⟨w.heap.size + 1 + 1, 0, none⟩ = some (.int .i64 3) := fun w' u => u.cell (by rw [hX.cell]; rfl)
  have s3 : ∀ w', Up wx w' → w'.cell? ⟨w.heap.size + 1 + 1, 1, none⟩ = some (.int .i64 1) := fun w' u => u.cell (by rw [hX.cell]; rfl)
  have hbx := stepB hbe hux.b
  clear kO kX kY hTa hR hrx
  refine wp_region_noPanic ?_
  refine wp_region_held_drew (S := fun w' => Up wx w') (by kernel_rfl) (Up.drew wx) (fun hHeld => ?_)
  refine wpAnyH_take (i := 0) (v := .agg (opC exO none 0).toArray) rfl (by kernel_rfl) (by kernel_rfl) (by kernel_rfl) (fun _ _ _ h => h) (yields_row (by rfl) _ _ rfl w.heap.size (by go_simp) _ (opC exO none 0).toArray _ (fun w' h => Blk.up hO h) Tryd.underlying30 rfl (by kernel_rfl)) (by assumption) ?_
  change wpAnyH _ _ _ _ _ _ _ (Act.put _ (some 29) _) _
  try (simp only [Act.put, List.setIfInBounds_toArray, List.set_cons_zero, List.set_cons_succ])
  refine wpAnyH_ready (rs := [1]) (by kernel_rfl) (by simp) ?_
  refine AllReadyH.cons rfl (fun K hK => ?_) AllReadyH.nil
  go_simp
  refine (k0 _ (Up.drew _)).mono ?_
  rintro e y0 ⟨rfl, hby0⟩
  have uy0 : Up wx y0 := (Up.drew _).trans (Up.of hby0)
  refine hK.out _ _ uy0 (fun hHeld => ?_)
  clear hK K hHeld
  refine wpAnyH_more (S' := fun w' => Up y0 w') (fun w' h => Up.trans uy0 h) _ _ _ _ ?_
  have hHeld := Up.refl y0
  refine wpAnyH_take (i := 2) (v := ?_) rfl (by kernel_rfl) (by kernel_rfl) (by kernel_rfl) (fun _ _ _ h => h) (Or.inl ⟨by rfl, ?_⟩) (by assumption) ?_
  rotate_left
  · intro w' hSw; clear hSw; go_simp; try (with_reducible rfl)
  change wpAnyH _ _ _ _ _ _ _ (Act.put _ (some 31) _) _
  try (simp only [Act.put, List.setIfInBounds_toArray, List.set_cons_zero, List.set_cons_succ])
  refine wpAnyH_take (i := 3) (v := ?_) rfl (by kernel_rfl) (by kernel_rfl) (by kernel_rfl) (fun _ _ _ h => h) (Or.inl ⟨by rfl, ?_⟩) (by assumption) ?_
  rotate_left
  · intro w' hSw; clear hSw; go_simp; try (with_reducible rfl)
  change wpAnyH _ _ _ _ _ _ _ (Act.put _ (some 32) _) _
  try (simp only [Act.put, List.setIfInBounds_toArray, List.set_cons_zero, List.set_cons_succ])
  refine wpAnyH_take (i := 4) (v := .agg (opC exX (some ⟨w.heap.size + 1, 0, none⟩) 1).toArray) rfl (by kernel_rfl) (by kernel_rfl) (by kernel_rfl) (fun _ _ _ h => h) (yields_row (by rfl) _ _ rfl (w.heap.size + 1 + 1) (by go_simp) _ (opC exX (some ⟨w.heap.size + 1, 0, none⟩) 1).toArray _ (fun w' h => Blk.up hX (Up.trans uy0 h)) Tryd.underlying30 rfl (by kernel_rfl)) (by assumption) ?_
  change wpAnyH _ _ _ _ _ _ _ (Act.put _ (some 33) _) _
  try (simp only [Act.put, List.setIfInBounds_toArray, List.set_cons_zero, List.set_cons_succ])
  refine wpAnyH_ready (rs := [5]) (by kernel_rfl) (by simp) ?_
  refine AllReadyH.cons rfl (fun K hK => ?_) AllReadyH.nil
  go_simp
  refine (k1 _ ((Up.trans uy0 (Up.refl _)))).mono ?_
  rintro e y1 ⟨rfl, hby1⟩
  have uy1 : Up y0 y1 := Up.of hby1
  refine hK.out _ _ uy1 (fun hHeld => ?_)
  clear hK K hHeld
  refine wpAnyH_more (S' := fun w' => Up y1 w') (fun w' h => Up.trans uy1 h) _ _ _ _ ?_
  have hHeld := Up.refl y1
  refine wpAnyH_take (i := 6) (v := ?_) rfl (by kernel_rfl) (by kernel_rfl) (by kernel_rfl) (fun _ _ _ h => h) (Or.inl ⟨by rfl, ?_⟩) (by assumption) ?_
  rotate_left
  · intro w' hSw; clear hSw; go_simp; try (with_reducible rfl)
  change wpAnyH _ _ _ _ _ _ _ (Act.put _ (some 35) _) _
  try (simp only [Act.put, List.setIfInBounds_toArray, List.set_cons_zero, List.set_cons_succ])
  refine wpAnyH_take (i := 7) (v := ?_) rfl (by kernel_rfl) (by kernel_rfl) (by kernel_rfl) (fun _ _ _ h => h) (Or.inl ⟨by rfl, ?_⟩) (by assumption) ?_
  rotate_left
  · intro w' hSw; clear hSw; go_simp; try (with_reducible rfl)
  change wpAnyH _ _ _ _ _ _ _ (Act.put _ (some 36) _) _
  try (simp only [Act.put, List.setIfInBounds_toArray, List.set_cons_zero, List.set_cons_succ])
  refine wpAnyH_take (i := 8) (v := ?_) rfl (by kernel_rfl) (by kernel_rfl) (by kernel_rfl) (fun _ _ _ h => h) (Or.inl ⟨by rfl, ?_⟩) (by assumption) ?_
  rotate_left
  · intro w' hSw; clear hSw; go_simp; try (with_reducible rfl)
  change wpAnyH _ _ _ _ _ _ _ (Act.put _ (some 37) _) _
  try (simp only [Act.put, List.setIfInBounds_toArray, List.set_cons_zero, List.set_cons_succ])
  refine wpAnyH_take (i := 9) (v := .agg (opC exY none 0).toArray) rfl (by kernel_rfl) (by kernel_rfl) (by kernel_rfl) (fun _ _ _ h => h) (yields_row (by rfl) _ _ rfl (w.heap.size + 1 + 1 + 1) (by go_simp) _ (opC exY none 0).toArray _ (fun w' h => Blk.up hY (Up.trans uy0 (Up.trans uy1 h))) Tryd.underlying30 rfl (by kernel_rfl)) (by assumption) ?_
  change wpAnyH _ _ _ _ _ _ _ (Act.put _ (some 38) _) _
  try (simp only [Act.put, List.setIfInBounds_toArray, List.set_cons_zero, List.set_cons_succ])
  refine wpAnyH_ready (rs := [10]) (by kernel_rfl) (by simp) ?_
  refine AllReadyH.cons rfl (fun K hK => ?_) AllReadyH.nil
  go_simp
  refine (k2 _ ((Up.trans uy0 (Up.trans uy1 (Up.refl _))))).mono ?_
  rintro e y2 ⟨rfl, hby2⟩
  have uy2 : Up y1 y2 := Up.of hby2
  refine hK.out _ _ uy2 (fun hHeld => ?_)
  clear hK K hHeld
  refine wpAnyH_more (S' := fun w' => Up y2 w') (fun w' h => Up.trans uy2 h) _ _ _ _ ?_
  have hHeld := Up.refl y2
  refine wpAnyH_take (i := 11) (v := ?_) rfl (by kernel_rfl) (by kernel_rfl) (by kernel_rfl) (fun _ _ _ h => h) (Or.inl ⟨by rfl, ?_⟩) (by assumption) ?_
  rotate_left
  · intro w' hSw; clear hSw; go_simp; try (with_reducible rfl)
  change wpAnyH _ _ _ _ _ _ _ (Act.put _ (some 40) _) _
  try (simp only [Act.put, List.setIfInBounds_toArray, List.set_cons_zero, List.set_cons_succ])
  refine wpAnyH_take (i := 12) (v := ?_) rfl (by kernel_rfl) (by kernel_rfl) (by kernel_rfl) (fun _ _ _ h => h) (Or.inl ⟨by rfl, ?_⟩) (by assumption) ?_
  rotate_left
  · intro w' hSw; clear hSw; go_simp; try (with_reducible rfl)
  change wpAnyH _ _ _ _ _ _ _ (Act.put _ (some 41) _) _
  try (simp only [Act.put, List.setIfInBounds_toArray, List.set_cons_zero, List.set_cons_succ])
  refine wpAnyH_take (i := 13) (v := ?_) rfl (by kernel_rfl) (by kernel_rfl) (by kernel_rfl) (fun _ _ _ h => h) (Or.inl ⟨by rfl, ?_⟩) (by assumption) ?_
  rotate_left
  · intro w' hSw; clear hSw; go_simp; try (with_reducible rfl)
  change wpAnyH _ _ _ _ _ _ _ (Act.put _ (some 42) _) _
  try (simp only [Act.put, List.setIfInBounds_toArray, List.set_cons_zero, List.set_cons_succ])
  refine wpAnyH_take (i := 14) (v := ?_) rfl (by kernel_rfl) (by kernel_rfl) (by kernel_rfl) (fun _ _ _ h => h) (Or.inl ⟨by rfl, ?_⟩) (by assumption) ?_
  rotate_left
  · intro w' hSw; clear hSw; go_simp; try (with_reducible rfl)
  change wpAnyH _ _ _ _ _ _ _ (Act.put _ (some 43) _) _
  try (simp only [Act.put, List.setIfInBounds_toArray, List.set_cons_zero, List.set_cons_succ])
  refine wpAnyH_take (i := 15) (v := ?_) rfl (by kernel_rfl) (by kernel_rfl) (by kernel_rfl) (fun _ _ _ h => h) (Or.inl ⟨by rfl, ?_⟩) (by assumption) ?_
  rotate_left
  · intro w' hS3; have hS2 := Up.trans uy2 hS3; have hS1 := Up.trans uy1 hS2; have hS0 := Up.trans uy0 hS1; go_simp; try (with_reducible rfl)
  change wpAnyH _ _ _ _ _ _ _ (Act.put _ (some 44) _) _
  try (simp only [Act.put, List.setIfInBounds_toArray, List.set_cons_zero, List.set_cons_succ])
  refine wpAnyH_take (i := 16) (v := ?_) rfl (by kernel_rfl) (by kernel_rfl) (by kernel_rfl) (fun _ _ _ h => h) (Or.inl ⟨by rfl, ?_⟩) (by assumption) ?_
  rotate_left
  · intro w' hSw; clear hSw; go_simp; try (with_reducible rfl)
  change wpAnyH _ _ _ _ _ _ _ (Act.put _ (some 45) _) _
  try (simp only [Act.put, List.setIfInBounds_toArray, List.set_cons_zero, List.set_cons_succ])
  refine wpAnyH_take (i := 17) (v := ?_) rfl (by kernel_rfl) (by kernel_rfl) (by kernel_rfl) (fun _ _ _ h => h) (Or.inl ⟨by rfl, ?_⟩) (by assumption) ?_
  rotate_left
  · intro w' hSw; clear hSw; go_simp; try (with_reducible rfl)
  change wpAnyH _ _ _ _ _ _ _ (Act.put _ (some 46) _) _
  try (simp only [Act.put, List.setIfInBounds_toArray, List.set_cons_zero, List.set_cons_succ])
  refine wpAnyH_take (i := 18) (v := ?_) rfl (by kernel_rfl) (by kernel_rfl) (by kernel_rfl) (fun _ _ _ h => h) (Or.inl ⟨by rfl, ?_⟩) (by assumption) ?_
  rotate_left
  · intro w' hSw; clear hSw; go_simp; try (with_reducible rfl)
  change wpAnyH _ _ _ _ _ _ _ (Act.put _ (some 47) _) _
  try (simp only [Act.put, List.setIfInBounds_toArray, List.set_cons_zero, List.set_cons_succ])
  refine wpAnyH_take (i := 19) (v := ?_) rfl (by kernel_rfl) (by kernel_rfl) (by kernel_rfl) (fun _ _ _ h => h) (Or.inl ⟨by rfl, ?_⟩) (by assumption) ?_
  rotate_left
  · intro w' hSw; clear hSw; go_simp; try (with_reducible rfl)
  change wpAnyH _ _ _ _ _ _ _ (Act.put _ (some 48) _) _
  try (simp only [Act.put, List.setIfInBounds_toArray, List.set_cons_zero, List.set_cons_succ])
  refine wpAnyH_take (i := 20) (v := ?_) rfl (by kernel_rfl) (by kernel_rfl) (by kernel_rfl) (fun _ _ _ h => h) (Or.inl ⟨by rfl, ?_⟩) (by assumption) ?_
  rotate_left
  · intro w' hSw; clear hSw; go_simp; try (with_reducible rfl)
  change wpAnyH _ _ _ _ _ _ _ (Act.put _ (some 49) _) _
  try (simp only [Act.put, List.setIfInBounds_toArray, List.set_cons_zero, List.set_cons_succ])
  refine wpAnyH_take (i := 21) (v := ?_) rfl (by kernel_rfl) (by kernel_rfl) (by kernel_rfl) (fun _ _ _ h => h) (Or.inl ⟨by rfl, ?_⟩) (by assumption) ?_
  rotate_left
  · intro w' hSw; clear hSw; go_simp; try (with_reducible rfl)
  change wpAnyH _ _ _ _ _ _ _ (Act.put _ (some 50) _) _
  try (simp only [Act.put, List.setIfInBounds_toArray, List.set_cons_zero, List.set_cons_succ])
  refine wpAnyH_take (i := 22) (v := ?_) rfl (by kernel_rfl) (by kernel_rfl) (by kernel_rfl) (fun _ _ _ h => h) (Or.inl ⟨by rfl, ?_⟩) (by assumption) ?_
  rotate_left
  · intro w' hSw; clear hSw; go_simp; try (with_reducible rfl)
  change wpAnyH _ _ _ _ _ _ _ (Act.put _ (some 51) _) _
  try (simp only [Act.put, List.setIfInBounds_toArray, List.set_cons_zero, List.set_cons_succ])
  refine wpAnyH_take (i := 23) (v := ?_) rfl (by kernel_rfl) (by kernel_rfl) (by kernel_rfl) (fun _ _ _ h => h) (Or.inl ⟨by rfl, ?_⟩) (by assumption) ?_
  rotate_left
  · intro w' hSw; clear hSw; go_simp; try (with_reducible rfl)
  change wpAnyH _ _ _ _ _ _ _ (Act.put _ (some 52) _) _
  try (simp only [Act.put, List.setIfInBounds_toArray, List.set_cons_zero, List.set_cons_succ])
  refine wpAnyH_take (i := 24) (v := ?_) rfl (by kernel_rfl) (by kernel_rfl) (by kernel_rfl) (fun _ _ _ h => h) (Or.inl ⟨by rfl, ?_⟩) (by assumption) ?_
  rotate_left
  · intro w' hSw; clear hSw; go_simp; try (with_reducible rfl)
  change wpAnyH _ _ _ _ _ _ _ (Act.put _ (some 53) _) _
  try (simp only [Act.put, List.setIfInBounds_toArray, List.set_cons_zero, List.set_cons_succ])
  refine wpAnyH_take (i := 25) (v := ?_) rfl (by kernel_rfl) (by kernel_rfl) (by kernel_rfl) (fun _ _ _ h => h) (Or.inl ⟨by rfl, ?_⟩) (by assumption) ?_
  rotate_left
  · intro w' hSw; clear hSw; go_simp; try (with_reducible rfl)
  change wpAnyH _ _ _ _ _ _ _ (Act.put _ (some 54) _) _
  try (simp only [Act.put, List.setIfInBounds_toArray, List.set_cons_zero, List.set_cons_succ])
  refine wpAnyH_take (i := 26) (v := ?_) rfl (by kernel_rfl) (by kernel_rfl) (by kernel_rfl) (fun _ _ _ h => h) (Or.inl ⟨by rfl, ?_⟩) (by assumption) ?_
  rotate_left
  · intro w' hSw; clear hSw; go_simp; try (with_reducible rfl)
  change wpAnyH _ _ _ _ _ _ _ (Act.put _ (some 55) _) _
  try (simp only [Act.put, List.setIfInBounds_toArray, List.set_cons_zero, List.set_cons_succ])
  refine wpAnyH_take (i := 27) (v := .agg (opC exO A6 c6).toArray) rfl (by kernel_rfl) (by kernel_rfl) (by kernel_rfl) (fun _ _ _ h => h) (yields_row (by rfl) _ _ rfl w6.heap.size (by go_simp) _ (opC exO A6 c6).toArray _ (fun w' h => Blk.up hP (Up.trans uy0 (Up.trans uy1 (Up.trans uy2 h)))) Tryd.underlying30 rfl (by kernel_rfl)) (by assumption) ?_
  change wpAnyH _ _ _ _ _ _ _ (Act.put _ (some 56) _) _
  try (simp only [Act.put, List.setIfInBounds_toArray, List.set_cons_zero, List.set_cons_succ])
  refine wpAnyH_take (i := 28) (v := .agg (opC exO none 0).toArray) rfl (by kernel_rfl) (by kernel_rfl) (by kernel_rfl) (fun _ _ _ h => h) (yields_row (by rfl) _ _ rfl w.heap.size (by go_simp) _ (opC exO none 0).toArray _ (fun w' h => Blk.up hO (Up.trans uy0 (Up.trans uy1 (Up.trans uy2 h)))) Tryd.underlying30 rfl (by kernel_rfl)) (by assumption) ?_
  change wpAnyH _ _ _ _ _ _ _ (Act.put _ (some 57) _) _
  try (simp only [Act.put, List.setIfInBounds_toArray, List.set_cons_zero, List.set_cons_succ])
  refine wpAnyH_ready (rs := [29]) (by kernel_rfl) (by simp) ?_
  refine AllReadyH.cons rfl (fun K hK => ?_) AllReadyH.nil
  go_simp
  refine (k3 _ ((Up.trans uy0 (Up.trans uy1 (Up.trans uy2 (Up.refl _)))))).mono ?_
  rintro e y3 ⟨rfl, hby3⟩
  have uy3 : Up y2 y3 := Up.of hby3
  refine hK.out _ _ uy3 (fun hHeld => ?_)
  clear hK K hHeld
  refine wpAnyH_more (S' := fun w' => Up y3 w') (fun w' h => Up.trans uy3 h) _ _ _ _ ?_
  have hHeld := Up.refl y3
  refine wpAnyH_take (i := 30) (v := ?_) rfl (by kernel_rfl) (by kernel_rfl) (by kernel_rfl) (fun _ _ _ h => h) (Or.inl ⟨by rfl, ?_⟩) (by assumption) ?_
  rotate_left
  · intro w' hSw; clear hSw; go_simp; try (with_reducible rfl)
  change wpAnyH _ _ _ _ _ _ _ (Act.put _ (some 59) _) _
  try (simp only [Act.put, List.setIfInBounds_toArray, List.set_cons_zero, List.set_cons_succ])
  refine wpAnyH_take (i := 31) (v := ?_) rfl (by kernel_rfl) (by kernel_rfl) (by kernel_rfl) (fun _ _ _ h => h) (Or.inl ⟨by rfl, ?_⟩) (by assumption) ?_
  rotate_left
  · intro w' hSw; clear hSw; go_simp; try (with_reducible rfl)
  change wpAnyH _ _ _ _ _ _ _ (Act.put _ (some 60) _) _
  try (simp only [Act.put, List.setIfInBounds_toArray, List.set_cons_zero, List.set_cons_succ])
  refine wpAnyH_take (i := 32) (v := .agg (opC exX (some ⟨w.heap.size + 1, 0, none⟩) 1).toArray) rfl (by kernel_rfl) (by kernel_rfl) (by kernel_rfl) (fun _ _ _ h => h) (yields_row (by rfl) _ _ rfl (w.heap.size + 1 + 1) (by go_simp) _ (opC exX (some ⟨w.heap.size + 1, 0, none⟩) 1).toArray _ (fun w' h => Blk.up hX (Up.trans uy0 (Up.trans uy1 (Up.trans uy2 (Up.trans uy3 h))))) Tryd.underlying30 rfl (by kernel_rfl)) (by assumption) ?_
  change wpAnyH _ _ _ _ _ _ _ (Act.put _ (some 61) _) _
  try (simp only [Act.put, List.setIfInBounds_toArray, List.set_cons_zero, List.set_cons_succ])
  refine wpAnyH_ready (rs := [33]) (by kernel_rfl) (by simp) ?_
  refine AllReadyH.cons rfl (fun K hK => ?_) AllReadyH.nil
  go_simp
  refine (k4 _ ((Up.trans uy0 (Up.trans uy1 (Up.trans uy2 (Up.trans uy3 (Up.refl _))))))).mono ?_
  rintro e y4 ⟨rfl, hby4⟩
  have uy4 : Up y3 y4 := Up.of hby4
  refine hK.out _ _ uy4 (fun hHeld => ?_)
  clear hK K hHeld
  refine wpAnyH_more (S' := fun w' => Up y4 w') (fun w' h => Up.trans uy4 h) _ _ _ _ ?_
  have hHeld := Up.refl y4
  refine wpAnyH_take (i := 34) (v := ?_) rfl (by kernel_rfl) (by kernel_rfl) (by kernel_rfl) (fun _ _ _ h => h) (Or.inl ⟨by rfl, ?_⟩) (by assumption) ?_
  rotate_left
  · intro w' hSw; clear hSw; go_simp; try (with_reducible rfl)
  change wpAnyH _ _ _ _ _ _ _ (Act.put _ (some 63) _) _
  try (simp only [Act.put, List.setIfInBounds_toArray, List.set_cons_zero, List.set_cons_succ])
  refine wpAnyH_take (i := 35) (v := ?_) rfl (by kernel_rfl) (by kernel_rfl) (by kernel_rfl) (fun _ _ _ h => h) (Or.inl ⟨by rfl, ?_⟩) (by assumption) ?_
  rotate_left
  · intro w' hSw; clear hSw; go_simp; try (with_reducible rfl)
  change wpAnyH _ _ _ _ _ _ _ (Act.put _ (some 64) _) _
  try (simp only [Act.put, List.setIfInBounds_toArray, List.set_cons_zero, List.set_cons_succ])
  refine wpAnyH_take (i := 36) (v := .agg (opC exX (some ⟨w.heap.size + 1, 0, none⟩) 1).toArray) rfl (by kernel_rfl) (by kernel_rfl) (by kernel_rfl) (fun _ _ _ h => h) (yields_row (by rfl) _ _ rfl (w.heap.size + 1 + 1) (by go_simp) _ (opC exX (some ⟨w.heap.size + 1, 0, none⟩) 1).toArray _ (fun w' h => Blk.up hX (Up.trans uy0 (Up.trans uy1 (Up.trans uy2 (Up.trans uy3 (Up.trans uy4 h)))))) Tryd.underlying30 rfl (by kernel_rfl)) (by assumption) ?_
  change wpAnyH _ _ _ _ _ _ _ (Act.put _ (some 65) _) _
  try (simp only [Act.put, List.setIfInBounds_toArray, List.set_cons_zero, List.set_cons_succ])
  refine wpAnyH_ready (rs := [37]) (by kernel_rfl) (by simp) ?_
  refine AllReadyH.cons rfl (fun K hK => ?_) AllReadyH.nil
  go_simp
  refine (k5 _ ((Up.trans uy0 (Up.trans uy1 (Up.trans uy2 (Up.trans uy3 (Up.trans uy4 (Up.refl _)))))))).mono ?_
  rintro e y5 ⟨rfl, hby5⟩
  have uy5 : Up y4 y5 := Up.of hby5
  refine hK.out _ _ uy5 (fun hHeld => ?_)
  clear hK K hHeld
  refine wpAnyH_more (S' := fun w' => Up y5 w') (fun w' h => Up.trans uy5 h) _ _ _ _ ?_
  have hHeld := Up.refl y5
  refine wpAnyH_take (i := 38) (v := ?_) rfl (by kernel_rfl) (by kernel_rfl) (by kernel_rfl) (fun _ _ _ h => h) (Or.inl ⟨by rfl, ?_⟩) (by assumption) ?_
  rotate_left
  · intro w' hSw; clear hSw; go_simp; try (with_reducible rfl)
  change wpAnyH _ _ _ _ _ _ _ (Act.put _ (some 67) _) _
  try (simp only [Act.put, List.setIfInBounds_toArray, List.set_cons_zero, List.set_cons_succ])
  refine wpAnyH_take (i := 39) (v := ?_) rfl (by kernel_rfl) (by kernel_rfl) (by kernel_rfl) (fun _ _ _ h => h) (Or.inl ⟨by rfl, ?_⟩) (by assumption) ?_
  rotate_left
  · intro w' hSw; clear hSw; go_simp; try (with_reducible rfl)
  change wpAnyH _ _ _ _ _ _ _ (Act.put _ (some 68) _) _
  try (simp only [Act.put, List.setIfInBounds_toArray, List.set_cons_zero, List.set_cons_succ])
  refine wpAnyH_take (i := 40) (v := ?_) rfl (by kernel_rfl) (by kernel_rfl) (by kernel_rfl) (fun _ _ _ h => h) (Or.inl ⟨by rfl, ?_⟩) (by assumption) ?_
  rotate_left
  · intro w' hSw; clear hSw; go_simp; try (with_reducible rfl)
  change wpAnyH _ _ _ _ _ _ _ (Act.put _ (some 69) _) _
  try (simp only [Act.put, List.setIfInBounds_toArray, List.set_cons_zero, List.set_cons_succ])
  refine wpAnyH_take (i := 41) (v := .agg (opC exX (some ⟨w.heap.size + 1, 0, none⟩) 1).toArray) rfl (by kernel_rfl) (by kernel_rfl) (by kernel_rfl) (fun _ _ _ h => h) (yields_row (by rfl) _ _ rfl (w.heap.size + 1 + 1) (by go_simp) _ (opC exX (some ⟨w.heap.size + 1, 0, none⟩) 1).toArray _ (fun w' h => Blk.up hX (Up.trans uy0 (Up.trans uy1 (Up.trans uy2 (Up.trans uy3 (Up.trans uy4 (Up.trans uy5 h))))))) Tryd.underlying30 rfl (by kernel_rfl)) (by assumption) ?_
  change wpAnyH _ _ _ _ _ _ _ (Act.put _ (some 70) _) _
  try (simp only [Act.put, List.setIfInBounds_toArray, List.set_cons_zero, List.set_cons_succ])
  refine wpAnyH_take (i := 43) (v := ?_) rfl (by kernel_rfl) (by kernel_rfl) (by kernel_rfl) (fun _ _ _ h => h) (Or.inl ⟨by rfl, ?_⟩) (by assumption) ?_
  rotate_left
  · intro w' hSw; clear hSw; go_simp; try (with_reducible rfl)
  change wpAnyH _ _ _ _ _ _ _ (Act.put _ (some 72) _) _
  try (simp only [Act.put, List.setIfInBounds_toArray, List.set_cons_zero, List.set_cons_succ])
  refine wpAnyH_take (i := 44) (v := ?_) rfl (by kernel_rfl) (by kernel_rfl) (by kernel_rfl) (fun _ _ _ h => h) (Or.inl ⟨by rfl, ?_⟩) (by assumption) ?_
  rotate_left
  · intro w' hS6; have hS5 := Up.trans uy5 hS6; have hS4 := Up.trans uy4 hS5; have hS3 := Up.trans uy3 hS4; have hS2 := Up.trans uy2 hS3; have hS1 := Up.trans uy1 hS2; have hS0 := Up.trans uy0 hS1; go_simp; try (with_reducible rfl)
  change wpAnyH _ _ _ _ _ _ _ (Act.put _ (some 73) _) _
  try (simp only [Act.put, List.setIfInBounds_toArray, List.set_cons_zero, List.set_cons_succ])
  refine wpAnyH_take (i := 45) (v := ?_) rfl (by kernel_rfl) (by kernel_rfl) (by kernel_rfl) (fun _ _ _ h => h) (Or.inl ⟨by rfl, ?_⟩) (by assumption) ?_
  rotate_left
  · intro w' hSw; clear hSw; go_simp; try (with_reducible rfl)
  change wpAnyH _ _ _ _ _ _ _ (Act.put _ (some 74) _) _
  try (simp only [Act.put, List.setIfInBounds_toArray, List.set_cons_zero, List.set_cons_succ])
  refine wpAnyH_ready (rs := [42]) (by kernel_rfl) (by simp) ?_
  refine AllReadyH.cons rfl (fun K hK => ?_) AllReadyH.nil
  go_simp
  refine (k6 _ ((Up.trans uy0 (Up.trans uy1 (Up.trans uy2 (Up.trans uy3 (Up.trans uy4 (Up.trans uy5 (Up.refl _))))))))).mono ?_
  rintro e y6 ⟨rfl, hby6⟩
  have uy6 : Up y5 y6 := Up.of hby6
  refine hK.out _ _ uy6 (fun hHeld => ?_)
  clear hK K hHeld
  refine wpAnyH_more (S' := fun w' => Up y6 w') (fun w' h => Up.trans uy6 h) _ _ _ _ ?_
  have hHeld := Up.refl y6
  refine wpAnyH_take (i := 46) (v := ?_) rfl (by kernel_rfl) (by kernel_rfl) (by kernel_rfl) (fun _ _ _ h => h) (Or.inl ⟨by rfl, ?_⟩) (by assumption) ?_
  rotate_left
  · intro w' hSw; clear hSw; go_simp; try (with_reducible rfl)
  change wpAnyH _ _ _ _ _ _ _ (Act.put _ (some 75) _) _
  try (simp only [Act.put, List.setIfInBounds_toArray, List.set_cons_zero, List.set_cons_succ])
  refine wpAnyH_take (i := 47) (v := ?_) rfl (by kernel_rfl) (by kernel_rfl) (by kernel_rfl) (fun _ _ _ h => h) (Or.inl ⟨by rfl, ?_⟩) (by assumption) ?_
  rotate_left
  · intro w' hSw; clear hSw; go_simp; try (with_reducible rfl)
  change wpAnyH _ _ _ _ _ _ _ (Act.put _ (some 76) _) _
  try (simp only [Act.put, List.setIfInBounds_toArray, List.set_cons_zero, List.set_cons_succ])
  refine wpAnyH_take (i := 48) (v := ?_) rfl (by kernel_rfl) (by kernel_rfl) (by kernel_rfl) (fun _ _ _ h => h) (Or.inl ⟨by rfl, ?_⟩) (by assumption) ?_
  rotate_left
  · intro w' hSw; clear hSw; go_simp; try (with_reducible rfl)
  change wpAnyH _ _ _ _ _ _ _ (Act.put _ (some 77) _) _
  try (simp only [Act.put, List.setIfInBounds_toArray, List.set_cons_zero, List.set_cons_succ])
  refine wpAnyH_take (i := 49) (v := .agg (opC exO none 0).toArray) rfl (by kernel_rfl) (by kernel_rfl) (by kernel_rfl) (fun _ _ _ h => h) (yields_row (by rfl) _ _ rfl w.heap.size (by go_simp) _ (opC exO none 0).toArray _ (fun w' h => Blk.up hO (Up.trans uy0 (Up.trans uy1 (Up.trans uy2 (Up.trans uy3 (Up.trans uy4 (Up.trans uy5 (Up.trans uy6 h)))))))) Tryd.underlying30 rfl (by kernel_rfl)) (by assumption) ?_
  change wpAnyH _ _ _ _ _ _ _ (Act.put _ (some 78) _) _
  try (simp only [Act.put, List.setIfInBounds_toArray, List.set_cons_zero, List.set_cons_succ])
  refine wpAnyH_take (i := 51) (v := ?_) rfl (by kernel_rfl) (by kernel_rfl) (by kernel_rfl) (fun _ _ _ h => h) (Or.inl ⟨by rfl, ?_⟩) (by assumption) ?_
  rotate_left
  · intro w' hSw; clear hSw; go_simp; try (with_reducible rfl)
  change wpAnyH _ _ _ _ _ _ _ (Act.put _ (some 80) _) _
  try (simp only [Act.put, List.setIfInBounds_toArray, List.set_cons_zero, List.set_cons_succ])
  refine wpAnyH_take (i := 52) (v := ?_) rfl (by kernel_rfl) (by kernel_rfl) (by kernel_rfl) (fun _ _ _ h => h) (Or.inl ⟨by rfl, ?_⟩) (by assumption) ?_
  rotate_left
  · intro w' hS7; have hS6 := Up.trans uy6 hS7; have hS5 := Up.trans uy5 hS6; have hS4 := Up.trans uy4 hS5; have hS3 := Up.trans uy3 hS4; have hS2 := Up.trans uy2 hS3; have hS1 := Up.trans uy1 hS2; have hS0 := Up.trans uy0 hS1; go_simp; try (with_reducible rfl)
  change wpAnyH _ _ _ _ _ _ _ (Act.put _ (some 81) _) _
  try (simp only [Act.put, List.setIfInBounds_toArray, List.set_cons_zero, List.set_cons_succ])
  refine wpAnyH_take (i := 53) (v := ?_) rfl (by kernel_rfl) (by kernel_rfl) (by kernel_rfl) (fun _ _ _ h => h) (Or.inl ⟨by rfl, ?_⟩) (by assumption) ?_
  rotate_left
  · intro w' hSw; clear hSw; go_simp; try (with_reducible rfl)
  change wpAnyH _ _ _ _ _ _ _ (Act.put _ (some 82) _) _
  try (simp only [Act.put, List.setIfInBounds_toArray, List.set_cons_zero, List.set_cons_succ])
  refine wpAnyH_ready (rs := [50]) (by kernel_rfl) (by simp) ?_
  refine AllReadyH.cons rfl (fun K hK => ?_) AllReadyH.nil
  go_simp
  refine (k7 _ ((Up.trans uy0 (Up.trans uy1 (Up.trans uy2 (Up.trans uy3 (Up.trans uy4 (Up.trans uy5 (Up.trans uy6 (Up.refl _)))))))))).mono ?_
  rintro e y7 ⟨rfl, hby7⟩
  have uy7 : Up y6 y7 := Up.of hby7
  refine hK.out _ _ uy7 (fun hHeld => ?_)
  clear hK K hHeld
  refine wpAnyH_more (S' := fun w' => Up y7 w') (fun w' h => Up.trans uy7 h) _ _ _ _ ?_
  have hHeld := Up.refl y7
  refine wpAnyH_take (i := 54) (v := ?_) rfl (by kernel_rfl) (by kernel_rfl) (by kernel_rfl) (fun _ _ _ h => h) (Or.inl ⟨by rfl, ?_⟩) (by assumption) ?_
  rotate_left
  · intro w' hSw; clear hSw; go_simp; try (with_reducible rfl)
  change wpAnyH _ _ _ _ _ _ _ (Act.put _ (some 83) _) _
  try (simp only [Act.put, List.setIfInBounds_toArray, List.set_cons_zero, List.set_cons_succ])
  refine wpAnyH_take (i := 55) (v := ?_) rfl (by kernel_rfl) (by kernel_rfl) (by kernel_rfl) (fun _ _ _ h => h) (Or.inl ⟨by rfl, ?_⟩) (by assumption) ?_
  rotate_left
  · intro w' hSw; clear hSw; go_simp; try (with_reducible rfl)
  change wpAnyH _ _ _ _ _ _ _ (Act.put _ (some 84) _) _
  try (simp only [Act.put, List.setIfInBounds_toArray, List.set_cons_zero, List.set_cons_succ])
  refine wpAnyH_take (i := 56) (v := ?_) rfl (by kernel_rfl) (by kernel_rfl) (by kernel_rfl) (fun _ _ _ h => h) (Or.inl ⟨by rfl, ?_⟩) (by assumption) ?_
  rotate_left
  · intro w' hSw; clear hSw; go_simp; try (with_reducible rfl)
  change wpAnyH _ _ _ _ _ _ _ (Act.put _ (some 85) _) _
  try (simp only [Act.put, List.setIfInBounds_toArray, List.set_cons_zero, List.set_cons_succ])
  refine wpAnyH_take (i := 57) (v := .agg (opC exO none 0).toArray) rfl (by kernel_rfl) (by kernel_rfl) (by kernel_rfl) (fun _ _ _ h => h) (yields_row (by rfl) _ _ rfl w.heap.size (by go_simp) _ (opC exO none 0).toArray _ (fun w' h => Blk.up hO (Up.trans uy0 (Up.trans uy1 (Up.trans uy2 (Up.trans uy3 (Up.trans uy4 (Up.trans uy5 (Up.trans uy6 (Up.trans uy7 h))))))))) Tryd.underlying30 rfl (by kernel_rfl)) (by assumption) ?_
  change wpAnyH _ _ _ _ _ _ _ (Act.put _ (some 86) _) _
  try (simp only [Act.put, List.setIfInBounds_toArray, List.set_cons_zero, List.set_cons_succ])
  refine wpAnyH_take (i := 58) (v := .agg (opC exO A6 c6).toArray) rfl (by kernel_rfl) (by kernel_rfl) (by kernel_rfl) (fun _ _ _ h => h) (yields_row (by rfl) _ _ rfl w6.heap.size (by go_simp) _ (opC exO A6 c6).toArray _ (fun w' h => Blk.up hP (Up.trans uy0 (Up.trans uy1 (Up.trans uy2 (Up.trans uy3 (Up.trans uy4 (Up.trans uy5 (Up.trans uy6 (Up.trans uy7 h))))))))) Tryd.underlying30 rfl (by kernel_rfl)) (by assumption) ?_
  change wpAnyH _ _ _ _ _ _ _ (Act.put _ (some 87) _) _
  try (simp only [Act.put, List.setIfInBounds_toArray, List.set_cons_zero, List.set_cons_succ])
  refine wpAnyH_ready (rs := [59]) (by kernel_rfl) (by simp) ?_
  refine AllReadyH.cons rfl (fun K hK => ?_) AllReadyH.nil
  go_simp
  refine (k8 _ ((Up.trans uy0 (Up.trans uy1 (Up.trans uy2 (Up.trans uy3 (Up.trans uy4 (Up.trans uy5 (Up.trans uy6 (Up.trans uy7 (Up.refl _))))))))))).mono ?_
  rintro e y8 ⟨rfl, hby8⟩
  have uy8 : Up y7 y8 := Up.of hby8
  refine hK.out _ _ uy8 (fun hHeld => ?_)
  clear hK K hHeld
  refine wpAnyH_more (S' := fun w' => Up y8 w') (fun w' h => Up.trans uy8 h) _ _ _ _ ?_
  have hHeld := Up.refl y8
  refine wpAnyH_take (i := 60) (v := ?_) rfl (by kernel_rfl) (by kernel_rfl) (by kernel_rfl) (fun _ _ _ h => h) (Or.inl ⟨by rfl, ?_⟩) (by assumption) ?_
  rotate_left
  · intro w' hSw; clear hSw; go_simp; try (with_reducible rfl)
  change wpAnyH _ _ _ _ _ _ _ (Act.put _ (some 89) _) _
  try (simp only [Act.put, List.setIfInBounds_toArray, List.set_cons_zero, List.set_cons_succ])
  refine wpAnyH_take (i := 61) (v := ?_) rfl (by kernel_rfl) (by kernel_rfl) (by kernel_rfl) (fun _ _ _ h => h) (Or.inl ⟨by rfl, ?_⟩) (by assumption) ?_
  rotate_left
  · intro w' hSw; clear hSw; go_simp; try (with_reducible rfl)
  change wpAnyH _ _ _ _ _ _ _ (Act.put _ (some 0) _) _
  try (simp only [Act.put, List.setIfInBounds_toArray, List.set_cons_zero, List.set_cons_succ])
  refine wpAnyH_done (by kernel_rfl) ?_ _
  refine NoPanic.normal ?_
  clear hHeld
  go_wp2_with fail
  go_ret
  exact ⟨rfl, stepB hbx (Up.trans uy0 (Up.trans uy1 (Up.trans uy2 (Up.trans uy3 (Up.trans uy4 (Up.trans uy5 (Up.trans uy6 (Up.trans uy7 uy8)))))))).b⟩
end Go.Proofs.YtfjiikcbcoohdaaDoor
