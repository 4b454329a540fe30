/-
  How the arguments of a statement are opened: what a value of each parameter type is, from its reading. Conditions: none; plain lemmas over any program.
  How the fields of a struct argument are opened, and bytes with their capacity. Conditions: none; plain lemmas over any program.
  How a field of a struct and a slice of structs are opened. Conditions: none; plain lemmas over any program.
  How an operation among the arguments is opened. Conditions: none.
-/
import Derived.Test.YtcomeidcmcegfaaGreatDoorBase
import Derived.ProofKit
import Derived.OpenShut
import Derived.ShutString
import Derived.ChangeOld
import Derived.Lib.SmallJoins
import Derived.Test.YtcomeidcmcegfaaGreatDoorZB
import Derived.Test.YtcomeidcmcegfaaGreatDoorOpsPlain
namespace Go.Proofs.YtcomeidcmcegfaaGreatDoor
open Go.RowKit Go.ChangeShapes Go.WideShapes
open Go.ChangeMaps (open_string)
set_option linter.unusedVariables false
section
variable {H : Type} {enc : TypeId × Value → H} {P : Program} {W : World} {base : Nat} {r : Reach} {b0 : Nat} {t e : TypeId} {v : Value} {d : DataW H} {p : List MemPlace}
theorem lt_of_cell {w : World} {a : Addr} {u : Value} (h : w.cell? a = some u) : a.block < w.heap.size := by
 rcases Nat.lt_or_ge a.block w.heap.size with hlt | hge
 ·exact hlt
 ·simp [World.cell?, Array.getElem?_eq_none hge] at h
theorem arg_int {k : IntKind} (ht : P.underlying t = some (.int k)) (hv : Value.okWide P W r b0 t v) (h : DataW.Trod enc P W base (fun _ => true) true t v d p) :
 ∃ n, v = .int k n ∧ (Lit.int k n).wf = true := by
 obtain ⟨n, rfl, _, _, w⟩ := open_int ht hv h
 exact ⟨n, rfl, w⟩
theorem arg_i64 (ht : P.underlying t = some (.int .i64)) (hv : Value.okWide P W r b0 t v) (h : DataW.Trod enc P W base (fun _ => true) true t v d p) :
 ∃ n, v = .int .i64 n ∧ -9223372036854775808 ≤ n ∧ n ≤ 9223372036854775807 := by
 obtain ⟨n, rfl, w⟩ := arg_int ht hv h
 exact ⟨n, rfl, bounds_i64 w⟩
theorem bytes_of_ints (zs : List Int) (h : ∀ n ∈ zs, (Lit.int .u8 n).wf = true) : ∃ l : List UInt8, zs.map (Value.int .u8) = l.map U8 := by
 induction zs with
 | nil => exact ⟨[], rfl⟩
 | cons n zs ih =>
  obtain ⟨l, hl⟩ := ih (fun m hm => h m (List.mem_cons_of_mem _ hm))
  have := bounds_u8 (h n (List.mem_cons_self))
  refine ⟨UInt8.ofNat n.toNat :: l, ?_⟩
  rw [List.map_cons, List.map_cons, hl, U8, UInt8.toNat_ofNat', show ((n.toNat % 256 : Nat) : Int) = n by omega]
end
end Go.Proofs.YtcomeidcmcegfaaGreatDoor
namespace Go.Proofs.YtcomeidcmcegfaaGreatDoor
open Go.RowKit Go.ChangeShapes Go.WideShapes
set_option linter.unusedVariables false
section
variable {H : Type} {enc : TypeId × Value → H} {P : Program} {W : World} {base : Nat} {r : Reach} {b0 : Nat} {t e : TypeId} {v : Value} {d : DataW H} {p : List MemPlace} {fuel : Nat} {x : DataW H × List MemPlace}
theorem fld_row {k : IntKind} (ht : P.underlying t = some (.slice e)) (he : P.underlying e = some (.int k)) (hc : P.cellsOf e = 1) (h : DataW.trod enc P W base (fun _ => true) true fuel t [v] = some x) :
 ∃ (A : Option Addr) (zs : List Int) (c : Nat), v = .slice A zs.length c ∧ Rd W A (zs.map (Value.int k)) ∧ zs.length ≤ maxLen ∧ (∀ n ∈ zs, (Lit.int k n).wf = true) ∧ zs.length ≤ c := by
 rcases open_ints ht he hc h with ⟨hcs, _⟩ | ⟨x, l, c, zs, hcs, _, hl, hm, hz, _, hcell, hwz⟩
 ·simp at hcs
  subst hcs
  exact ⟨none, [], 0, rfl, Rd.nil _ _, by simp, by simp, by simp⟩
 ·simp at hcs
  subst hcs
  have hz' : zs.length = c := by simpa using hz
  have htl : (zs.take l).length = l := by simp; omega
  refine ⟨some x, zs.take l, c, by rw [htl], fun hne => ?_, by rw [htl]; omega, fun n hn => hwz n (List.mem_of_mem_take hn), by rw [htl]; omega⟩
  have hlen : 0 < l := by
   rcases Nat.eq_zero_or_pos l with h0 | h0
   ·subst h0; simp at hne
   ·exact h0
  obtain ⟨b, off, spot⟩ := x
  have hc0 := hcell 0 (by omega)
  have hspot : spot = none := by simpa [Addr.add] using World.cell?_spot hc0
  subst hspot
  refine ⟨b, off, rfl, by have := lt_of_cell hc0; simpa [Addr.add] using this, fun j u hu => ?_⟩
  have hjl : j < l := by
   have := (List.getElem?_eq_some_iff.1 hu).1
   simp at this; omega
  have hj : j < zs.length := by omega
  have := hcell j hj
  rw [show (⟨b, off, none⟩ : Addr).add j = ⟨b, off + j, none⟩ by unfold Addr.add; split <;> simp_all] at this
  rw [this, ← hu]
  simp [hjl, List.getD, List.getElem?_eq_getElem hj]
theorem fld_bytes (ht : P.underlying t = some (.slice e)) (he : P.underlying e = some (.int .u8)) (hc : P.cellsOf e = 1) (h : DataW.trod enc P W base (fun _ => true) true fuel t [v] = some x) :
 ∃ (A : Option Addr) (l : List UInt8) (c : Nat), v = .slice A l.length c ∧ Rd W A (l.map U8) ∧ l.length ≤ maxLen ∧ l.length ≤ c := by
 obtain ⟨A, zs, c, rfl, hr, hm, hw, hc⟩ := fld_row ht he hc h
 obtain ⟨l, hl⟩ := bytes_of_ints zs hw
 have hlen : l.length = zs.length := by simpa using (congrArg List.length hl).symm
 exact ⟨A, l, c, by rw [hlen], by rw [← hl]; exact hr, by omega, by omega⟩
theorem arg_bytesc (ht : P.underlying t = some (.slice e)) (he : P.underlying e = some (.int .u8)) (hc : P.cellsOf e = 1)
 (hv : Value.okWide P W r b0 t v) (h : DataW.Trod enc P W base (fun _ => true) true t v d p) :
 ∃ (A : Option Addr) (l : List UInt8) (c : Nat), v = .slice A l.length c ∧ Rd W A (l.map U8) ∧ l.length ≤ maxLen ∧ l.length ≤ c := by
 obtain ⟨a0, len, cap, rfl⟩ := okWide_slice ht hv
 obtain ⟨fuel, hf⟩ := h
 exact fld_bytes ht he hc hf
end
end Go.Proofs.YtcomeidcmcegfaaGreatDoor
namespace Go.Proofs.YtcomeidcmcegfaaGreatDoor
open Go.RowKit Go.ChangeShapes Go.WideShapes
set_option linter.unusedVariables false
section
variable {H : Type} {enc : TypeId × Value → H} {P : Program} {W : World} {base : Nat} {r : Reach} {b0 : Nat} {t e : TypeId} {v : Value} {d : DataW H} {p : List MemPlace} {fuel : Nat} {x : DataW H × List MemPlace} {cs : List Value}
end
end Go.Proofs.YtcomeidcmcegfaaGreatDoor
namespace Go.Proofs.YtcomeidcmcegfaaGreatDoor
open Go.RowKit Go.ChangeShapes Go.WideShapes
set_option linter.unusedVariables false
def I64b (n : Int) : Prop := -9223372036854775808 ≤ n ∧ n ≤ 9223372036854775807
structure OP.Bd (o : OP) : Prop where
 ac : I64b o.ac
 ad : I64b o.ad
 kd : I64b o.kd
 rc : I64b o.rc
 id : I64b o.id
 ti : I64b o.ti
 pa : I64b o.pa
 sf : I64b o.sf
 st : I64b o.st
 rk : I64b o.rk
 se : I64b o.se
 nn : I64b o.nn
 nt : o.nt.length ≤ maxLen
 tx : o.tx.length ≤ maxLen
 ov : ∀ p ∈ o.ov, I64b p.1 ∧ I64b p.2
 ol : o.ov.length ≤ maxLen
structure OX where
 o : OP
 A : Option Addr
 c : Nat
structure OX.Ok (W : World) (x : OX) : Prop where
 bd : x.o.Bd
 rd : Rd W x.A (ovL x.o.ov)
 cap : x.o.ov.length ≤ x.c
def OX.cs (x : OX) : List Value := opC x.o x.A x.c
def stC (p : Int × Int) : List Value := [.int .i64 p.1, .int .i64 p.2]
theorem ovL_flat (l : List (Int × Int)) : ovL l = l.flatMap stC := rfl
section
variable {H : Type} {enc : TypeId × Value → H} {W : World} {base : Nat} {r : Reach} {b0 : Nat} {v : Value} {d : DataW H} {p : List MemPlace} {fuel : Nat} {x : DataW H × List MemPlace} {cs : List Value}
end
end Go.Proofs.YtcomeidcmcegfaaGreatDoor
