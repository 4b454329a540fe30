/-
  How the arguments of a statement are opened: what a value of each parameter type is, from its reading. Conditions: none; plain lemmas over any program.
  How the fields of a struct argument are opened, and bytes with their capacity. Conditions: none; plain lemmas over any program.
  How a field of a struct and a slice of structs are opened. Conditions: none; plain lemmas over any program.
  How an operation among the arguments is opened. Conditions: none.
-/
import Derived.Test.YtcomeidcmcegfaaDoorBase
import Derived.ProofKit
import Derived.OpenShut
import Derived.ShutString
import Derived.ChangeOld
import Derived.Lib.SmallJoins
import Derived.Test.YtcomeidcmcegfaaDoorZB
import Derived.Test.YtcomeidcmcegfaaDoorOpsPlain
namespace Go.Proofs.YtcomeidcmcegfaaDoor
open Go.RowKit Go.ChangeShapes Go.WideShapes
open Go.ChangeMaps (open_string)
set_option linter.unusedVariables false
section
variable {H : Type} {enc : TypeId × Value → H} {P : Program} {W : World} {base : Nat} {r : Reach} {b0 : Nat} {t e : TypeId} {v : Value} {d : DataW H} {p : List MemPlace}
theorem lt_of_cell {w : World} {a : Addr} {u : Value} (h : w.cell? a = some u) : a.block < w.heap.size := by
 rcases Nat.lt_or_ge a.block w.heap.size with hlt | hge
 ·exact hlt
 ·simp [World.cell?, Array.getElem?_eq_none hge] at h
theorem arg_int {k : IntKind} (ht : P.underlying t = some (.int k)) (hv : Value.okWide P W r b0 t v) (h : DataW.Trod enc P W base (fun _ => true) true t v d p) :
 ∃ n, v = .int k n ∧ (Lit.int k n).wf = true := by
 obtain ⟨n, rfl, _, _, w⟩ := open_int ht hv h
 exact ⟨n, rfl, w⟩
theorem arg_i64 (ht : P.underlying t = some (.int .i64)) (hv : Value.okWide P W r b0 t v) (h : DataW.Trod enc P W base (fun _ => true) true t v d p) :
 ∃ n, v = .int .i64 n ∧ -9223372036854775808 ≤ n ∧ n ≤ 9223372036854775807 := by
 obtain ⟨n, rfl, w⟩ := arg_int ht hv h
 exact ⟨n, rfl, bounds_i64 w⟩
end
end Go.Proofs.YtcomeidcmcegfaaDoor
namespace Go.Proofs.YtcomeidcmcegfaaDoor
open Go.RowKit Go.ChangeShapes Go.WideShapes
set_option linter.unusedVariables false
section
variable {H : Type} {enc : TypeId × Value → H} {P : Program} {W : World} {base : Nat} {r : Reach} {b0 : Nat} {t e : TypeId} {v : Value} {d : DataW H} {p : List MemPlace} {fuel : Nat} {x : DataW H × List MemPlace}
theorem fld_int {k : IntKind} (ht : P.underlying t = some (.int k)) (h : DataW.trod enc P W base (fun _ => true) true fuel t [v] = some x) : ∃ n, v = .int k n ∧ (Lit.int k n).wf = true := by
 obtain ⟨n, e0, _, w⟩ := DataW.trod_int ht h
 simp at e0
 exact ⟨n, e0, w⟩
theorem fld_i64 (ht : P.underlying t = some (.int .i64)) (h : DataW.trod enc P W base (fun _ => true) true fuel t [v] = some x) : ∃ n, v = .int .i64 n ∧ -9223372036854775808 ≤ n ∧ n ≤ 9223372036854775807 := by
 obtain ⟨n, rfl, w⟩ := fld_int ht h
 exact ⟨n, rfl, bounds_i64 w⟩
theorem fld_string (ht : P.underlying t = some .string) (h : DataW.trod enc P W base (fun _ => true) true fuel t [v] = some x) : ∃ s : List UInt8, v = .string ⟨s.toArray⟩ ∧ s.length ≤ maxLen := by
 obtain ⟨s, e0, _, w⟩ := DataW.trod_string ht h
 simp at e0
 exact ⟨s.data.toList, by rw [e0], by rw [Array.length_toList]; exact w⟩
theorem fld_row {k : IntKind} (ht : P.underlying t = some (.slice e)) (he : P.underlying e = some (.int k)) (hc : P.cellsOf e = 1) (h : DataW.trod enc P W base (fun _ => true) true fuel t [v] = some x) :
 ∃ (A : Option Addr) (zs : List Int) (c : Nat), v = .slice A zs.length c ∧ Rd W A (zs.map (Value.int k)) ∧ zs.length ≤ maxLen ∧ (∀ n ∈ zs, (Lit.int k n).wf = true) ∧ zs.length ≤ c := by
 rcases open_ints ht he hc h with ⟨hcs, _⟩ | ⟨x, l, c, zs, hcs, _, hl, hm, hz, _, hcell, hwz⟩
 ·simp at hcs
  subst hcs
  exact ⟨none, [], 0, rfl, Rd.nil _ _, by simp, by simp, by simp⟩
 ·simp at hcs
  subst hcs
  have hz' : zs.length = c := by simpa using hz
  have htl : (zs.take l).length = l := by simp; omega
  refine ⟨some x, zs.take l, c, by rw [htl], fun hne => ?_, by rw [htl]; omega, fun n hn => hwz n (List.mem_of_mem_take hn), by rw [htl]; omega⟩
  have hlen : 0 < l := by
   rcases Nat.eq_zero_or_pos l with h0 | h0
   ·subst h0; simp at hne
   ·exact h0
  obtain ⟨b, off, spot⟩ := x
  have hc0 := hcell 0 (by omega)
  have hspot : spot = none := by simpa [Addr.add] using World.cell?_spot hc0
  subst hspot
  refine ⟨b, off, rfl, by have := lt_of_cell hc0; simpa [Addr.add] using this, fun j u hu => ?_⟩
  have hjl : j < l := by
   have := (List.getElem?_eq_some_iff.1 hu).1
   simp at this; omega
  have hj : j < zs.length := by omega
  have := hcell j hj
  rw [show (⟨b, off, none⟩ : Addr).add j = ⟨b, off + j, none⟩ by unfold Addr.add; split <;> simp_all] at this
  rw [this, ← hu]
  simp [hjl, List.getD, List.getElem?_eq_getElem hj]
theorem fld_ints (ht : P.underlying t = some (.slice e)) (he : P.underlying e = some (.int .i64)) (hc : P.cellsOf e = 1) (h : DataW.trod enc P W base (fun _ => true) true fuel t [v] = some x) :
 ∃ (A : Option Addr) (l : List Int) (c : Nat), v = .slice A l.length c ∧ Rd W A (l.map I64) ∧ l.length ≤ maxLen ∧ (∀ n ∈ l, -9223372036854775808 ≤ n ∧ n ≤ 9223372036854775807) ∧ l.length ≤ c := by
 obtain ⟨A, zs, c, rfl, hr, hm, hw, hc⟩ := fld_row ht he hc h
 exact ⟨A, zs, c, rfl, hr, hm, fun n hn => bounds_i64 (hw n hn), hc⟩
end
end Go.Proofs.YtcomeidcmcegfaaDoor
namespace Go.Proofs.YtcomeidcmcegfaaDoor
open Go.RowKit Go.ChangeShapes Go.WideShapes
set_option linter.unusedVariables false
section
variable {H : Type} {enc : TypeId × Value → H} {P : Program} {W : World} {base : Nat} {r : Reach} {b0 : Nat} {t e : TypeId} {v : Value} {d : DataW H} {p : List MemPlace} {fuel : Nat} {x : DataW H × List MemPlace} {cs : List Value}
theorem fld_at {fs : Array Field} (ht : P.underlying t = some (.struct fs)) (h : DataW.trod enc P W base (fun _ => true) true fuel t cs = some x) (i : Nat) {f : Field} (hf : fs[i]? = some f) :
 ∃ m y, DataW.trod enc P W base (fun _ => true) true m f.type ((cs.drop f.offset).take (P.cellsOf f.type)) = some y := by
 obtain ⟨xs, n, _, _, _, hl, hg⟩ := DataW.trod_struct ht h
 have h1 := hg i f hf
 have hi : i < fs.size := by
  rcases Nat.lt_or_ge i fs.size with hlt | hge
  ·exact hlt
  ·rw [Array.getElem?_eq_none hge] at hf; cases hf
 exact ⟨n, xs[i]'(by omega), by rw [h1]; simp [show i < xs.length by omega]⟩
theorem len_of {fs : Array Field} (ht : P.underlying t = some (.struct fs)) (h : DataW.trod enc P W base (fun _ => true) true fuel t cs = some x) : cs.length = P.cellsOf t := by
 obtain ⟨xs, n, _, _, hc, _⟩ := DataW.trod_struct ht h
 exact hc
theorem cells_at {w : World} {base : Nat} {a : Addr} {n : Nat} {cs : List Value} (h : w.cells? base a n = some cs) : cs.length = n ∧ ∀ j, j < n → w.cell? (a.add j) = cs[j]? := by
 unfold World.cells? at h
 split at h
 ·exact ⟨by simpa using mapM_some_length h, fun j hj => mapM_some_get h j j (by simp [hj])⟩
 ·cases h
theorem choose_list {α : Type} (f : α → List Value) (G : α → Prop) (n : Nat) (R : Nat → List Value → Prop) (h : ∀ i, i < n → ∃ a, R i (f a) ∧ G a) : ∃ l : List α, l.length = n ∧ (∀ i a, l[i]? = some a → R i (f a)) ∧ ∀ a ∈ l, G a := by
 induction n with
 | zero => exact ⟨[], rfl, by simp, by simp⟩
 | succ n ih =>
  obtain ⟨l, h1, h2, h3⟩ := ih (fun i hi => h i (by omega))
  obtain ⟨a, ha, hG⟩ := h n (by omega)
  refine ⟨l ++ [a], by simp [h1], fun i b hb => ?_, fun b hb => ?_⟩
  ·rcases Nat.lt_or_ge i l.length with hlt | hge
   ·rw [List.getElem?_append_left hlt] at hb; exact h2 i b hb
   ·have hi : i = n := by
     have := (List.getElem?_eq_some_iff.1 hb).1
     simp at this; omega
    subst hi
    rw [List.getElem?_append_right (by omega), h1] at hb
    simp at hb
    subst hb; exact ha
  ·rcases List.mem_append.1 hb with h | h
   ·exact h3 b h
   ·rw [List.mem_singleton.1 h]; exact hG
theorem flat_get {α : Type} (f : α → List Value) (s : Nat) (hf : ∀ a, (f a).length = s) (h0 : 0 < s) : ∀ (l : List α) (j : Nat) (u : Value), (l.flatMap f)[j]? = some u → ∃ a, l[j / s]? = some a ∧ (f a)[j % s]? = some u := by
 intro l
 induction l with
 | nil => intro j u h; simp at h
 | cons a l ih =>
  intro j u h
  rw [List.flatMap_cons] at h
  rcases Nat.lt_or_ge j s with hlt | hge
  ·rw [List.getElem?_append_left (by rw [hf]; exact hlt)] at h
   exact ⟨a, by rw [Nat.div_eq_of_lt hlt]; rfl, by rw [Nat.mod_eq_of_lt hlt]; exact h⟩
  ·rw [List.getElem?_append_right (by rw [hf]; exact hge), hf] at h
   obtain ⟨b, h1, h2⟩ := ih (j - s) u h
   refine ⟨b, ?_, ?_⟩
   ·rw [Nat.div_eq_sub_div h0 hge]; simpa using h1
   ·rw [Nat.mod_eq_sub_mod hge]; exact h2
theorem fld_list {α : Type} (f : α → List Value) (G : α → Prop) {s : Nat} (ht : P.underlying t = some (.slice e)) (hsz : P.cellsOf e = s) (h0 : 0 < s) (hf : ∀ a, (f a).length = s)
 (hQ : ∀ m cs y, DataW.trod enc P W base (fun _ => true) true m e cs = some y → ∃ a, cs = f a ∧ G a) (h : DataW.trod enc P W base (fun _ => true) true fuel t [v] = some x) :
 ∃ (A : Option Addr) (l : List α) (c : Nat), v = .slice A l.length c ∧ Rd W A (l.flatMap f) ∧ l.length ≤ maxLen ∧ (∀ a ∈ l, G a) ∧ l.length ≤ c := by
 rcases DataW.trod_slice ht h with ⟨hcs, _⟩ | ⟨a, len, cap, elems, rest, n, _, hcs, _, _, hl, hm, hel, hg, _, _⟩
 ·simp at hcs
  subst hcs
  exact ⟨none, [], 0, rfl, Rd.nil _ _, by simp, by simp, by simp⟩
 ·simp at hcs
  subst hcs
  obtain ⟨l, h1, h2, h3⟩ := choose_list f G len (fun i cs => W.cells? base (a.add (i * s)) s = some cs) (fun i hi => by
   have hi' := hg i hi
   rw [hsz, List.getElem?_eq_getElem (by omega)] at hi'
   obtain ⟨cs, e1, e2⟩ := Option.bind_eq_some_iff.1 hi'
   obtain ⟨b, rfl, hb⟩ := hQ _ _ _ e2
   exact ⟨b, e1, hb⟩)
  refine ⟨some a, l, cap, by rw [h1], fun hne => ?_, by omega, h3, by omega⟩
  have hcell : ∀ j u, (l.flatMap f)[j]? = some u → W.cell? ((a.add (j / s * s)).add (j % s)) = some u := by
   intro j u hu
   obtain ⟨b, e1, e2⟩ := flat_get f s hf h0 l j u hu
   have := (cells_at (h2 _ _ e1)).2 (j % s) (Nat.mod_lt _ h0)
   rw [this]; exact e2
  obtain ⟨b, off, spot⟩ := a
  obtain ⟨u0, hu0⟩ : ∃ u, (l.flatMap f)[0]? = some u := by
   rcases hX : l.flatMap f with _ | ⟨y, ys⟩
   ·exact absurd hX hne
   ·exact ⟨y, rfl⟩
  have hc0 := hcell 0 u0 hu0
  have hspot : spot = none := by simpa [Addr.add] using World.cell?_spot hc0
  subst hspot
  refine ⟨b, off, rfl, by have := lt_of_cell hc0; simpa [Addr.add] using this, fun j u hu => ?_⟩
  have := hcell j u hu
  rw [add_plain, add_plain, Nat.add_assoc, Nat.mul_comm, Nat.div_add_mod] at this
  exact this
end
end Go.Proofs.YtcomeidcmcegfaaDoor
namespace Go.Proofs.YtcomeidcmcegfaaDoor
open Go.RowKit Go.ChangeShapes Go.WideShapes
set_option linter.unusedVariables false
def I64b (n : Int) : Prop := -9223372036854775808 ≤ n ∧ n ≤ 9223372036854775807
structure OP.Bd (o : OP) : Prop where
 ac : I64b o.ac
 ad : I64b o.ad
 kd : I64b o.kd
 rc : I64b o.rc
 id : I64b o.id
 ti : I64b o.ti
 pa : I64b o.pa
 sf : I64b o.sf
 st : I64b o.st
 rk : I64b o.rk
 se : I64b o.se
 nn : I64b o.nn
 nt : o.nt.length ≤ maxLen
 tx : o.tx.length ≤ maxLen
 ov : ∀ p ∈ o.ov, I64b p.1 ∧ I64b p.2
 ol : o.ov.length ≤ maxLen
structure OX where
 o : OP
 A : Option Addr
 c : Nat
structure OX.Ok (W : World) (x : OX) : Prop where
 bd : x.o.Bd
 rd : Rd W x.A (ovL x.o.ov)
 cap : x.o.ov.length ≤ x.c
def OX.cs (x : OX) : List Value := opC x.o x.A x.c
def stC (p : Int × Int) : List Value := [.int .i64 p.1, .int .i64 p.2]
theorem ovL_flat (l : List (Int × Int)) : ovL l = l.flatMap stC := rfl
section
variable {H : Type} {enc : TypeId × Value → H} {W : World} {base : Nat} {r : Reach} {b0 : Nat} {v : Value} {d : DataW H} {p : List MemPlace} {fuel : Nat} {x : DataW H × List MemPlace} {cs : List Value}
theorem fld_at2 {P : Program} {t : TypeId} {fs : Array Field} (ht : P.underlying t = some (.struct fs)) (h : DataW.trod enc P W base (fun _ => true) true fuel t cs = some x) (i : Nat) {f : Field} (hf : fs[i]? = some f) (T : TypeId) (k n : Nat)
 (eT : f.type = T) (eo : f.offset = k) (ec : P.cellsOf T = n) : ∃ m y, DataW.trod enc P W base (fun _ => true) true m T ((cs.drop k).take n) = some y := by
 subst eT eo ec
 exact fld_at ht h i hf
theorem fld_stamp (h : DataW.trod enc Tryd.prog W base (fun _ => true) true fuel 31 cs = some x) : ∃ q : Int × Int, cs = stC q ∧ I64b q.1 ∧ I64b q.2 := by
 have hl := len_of Tryd.underlying31 h
 rw [show Tryd.prog.cellsOf 31 = 2 by kernel_rfl] at hl
 obtain ⟨m0, y0, g0⟩ := fld_at2 Tryd.underlying31 h 0 rfl 3 0 1 rfl rfl (by kernel_rfl)
 obtain ⟨m1, y1, g1⟩ := fld_at2 Tryd.underlying31 h 1 rfl 3 1 1 rfl rfl (by kernel_rfl)
 obtain ⟨x0, x1, rfl⟩ : ∃ x0 x1, cs = [x0, x1] := by
  rcases cs with _ | ⟨x0, _ | ⟨x1, _ | ⟨x2, cs⟩⟩⟩ <;> simp at hl
  exact ⟨x0, x1, rfl⟩
 obtain ⟨n, rfl, bn⟩ := fld_i64 Tryd.underlying3 g0
 obtain ⟨k, rfl, bk⟩ := fld_i64 Tryd.underlying3 g1
 exact ⟨(n, k), rfl, bn, bk⟩
theorem fld_pair (t : TypeId) {f0 f1 : Field} (hs : Tryd.prog.underlying t = some (.struct #[f0, f1])) (o0 : f0.offset = 0) (o1 : f1.offset = 1) (t0 : f0.type = 3) (t1 : f1.type = 3) (hC : Tryd.prog.cellsOf t = 2)
 (h : DataW.trod enc Tryd.prog W base (fun _ => true) true fuel t cs = some x) : ∃ a b : Int, cs = [.int .i64 a, .int .i64 b] ∧ I64b a ∧ I64b b := by
 have hl := len_of hs h
 rw [hC] at hl
 obtain ⟨m0, y0, g0⟩ := fld_at hs h 0 (f := f0) rfl
 obtain ⟨m1, y1, g1⟩ := fld_at hs h 1 (f := f1) rfl
 obtain ⟨x0, x1, rfl⟩ : ∃ x0 x1, cs = [x0, x1] := by
  rcases cs with _ | ⟨x0, _ | ⟨x1, _ | ⟨x2, cs⟩⟩⟩ <;> simp at hl
  exact ⟨x0, x1, rfl⟩
 have c1 : Tryd.prog.cellsOf 3 = 1 := by kernel_rfl
 rw [o0, t0, c1] at g0
 rw [o1, t1, c1] at g1
 obtain ⟨n, rfl, bn⟩ := fld_i64 Tryd.underlying3 g0
 obtain ⟨k, rfl, bk⟩ := fld_i64 Tryd.underlying3 g1
 exact ⟨n, k, rfl, bn, bk⟩
theorem fld_note (h : DataW.trod enc Tryd.prog W base (fun _ => true) true fuel 35 cs = some x) :
 ∃ (i t p f o k : Int) (s : List UInt8), cs = [.int .i64 i, .int .i64 t, .int .i64 p, .int .i64 f, .int .i64 o, .int .i64 k, .string ⟨s.toArray⟩] ∧ I64b i ∧ I64b t ∧ I64b p ∧ I64b f ∧ I64b o ∧ I64b k ∧ s.length ≤ maxLen := by
 have hl := len_of Tryd.underlying35 h
 rw [show Tryd.prog.cellsOf 35 = 7 by kernel_rfl] at hl
 obtain ⟨m0, y0, g0⟩ := fld_at2 Tryd.underlying35 h 0 rfl 3 0 1 rfl rfl (by kernel_rfl)
 obtain ⟨m1, y1, g1⟩ := fld_at2 Tryd.underlying35 h 1 rfl 3 1 1 rfl rfl (by kernel_rfl)
 obtain ⟨m2, y2, g2⟩ := fld_at2 Tryd.underlying35 h 2 rfl 3 2 1 rfl rfl (by kernel_rfl)
 obtain ⟨m3, y3, g3⟩ := fld_at2 Tryd.underlying35 h 3 rfl 33 3 2 rfl rfl (by kernel_rfl)
 obtain ⟨m4, y4, g4⟩ := fld_at2 Tryd.underlying35 h 4 rfl 3 5 1 rfl rfl (by kernel_rfl)
 obtain ⟨m5, y5, g5⟩ := fld_at2 Tryd.underlying35 h 5 rfl 9 6 1 rfl rfl (by kernel_rfl)
 obtain ⟨x0, x1, x2, x3, x4, x5, x6, rfl⟩ : ∃ x0 x1 x2 x3 x4 x5 x6, cs = [x0, x1, x2, x3, x4, x5, x6] := by
  rcases cs with _ | ⟨x0, _ | ⟨x1, _ | ⟨x2, _ | ⟨x3, _ | ⟨x4, _ | ⟨x5, _ | ⟨x6, _ | ⟨x7, cs⟩⟩⟩⟩⟩⟩⟩⟩ <;> simp at hl
  exact ⟨_, _, _, _, _, _, _, rfl⟩
 obtain ⟨n0, rfl, b0⟩ := fld_i64 Tryd.underlying3 g0
 obtain ⟨n1, rfl, b1⟩ := fld_i64 Tryd.underlying3 g1
 obtain ⟨n2, rfl, b2⟩ := fld_i64 Tryd.underlying3 g2
 obtain ⟨f, t, e3, b3, b4⟩ := fld_pair 33 Tryd.underlying33 rfl rfl rfl rfl (by kernel_rfl) g3
 simp only [List.drop_succ_cons, List.drop_zero, List.take_succ_cons, List.take_zero, List.cons.injEq, and_true] at e3
 obtain ⟨rfl, rfl⟩ := e3
 obtain ⟨n5, rfl, b5⟩ := fld_i64 Tryd.underlying3 g4
 obtain ⟨s, rfl, bs⟩ := fld_string Tryd.underlying9 g5
 exact ⟨n0, n1, n2, f, t, n5, s, rfl, b0, b1, b2, b3, b4, b5, bs⟩
theorem fld_stamps (h : DataW.trod enc Tryd.prog W base (fun _ => true) true fuel 36 [v] = some x) :
 ∃ (A : Option Addr) (l : List (Int × Int)) (c : Nat), v = .slice A l.length c ∧ Rd W A (ovL l) ∧ l.length ≤ maxLen ∧ (∀ q ∈ l, I64b q.1 ∧ I64b q.2) ∧ l.length ≤ c :=
 fld_list stC (fun q => I64b q.1 ∧ I64b q.2) (s := 2) Tryd.underlying36 (by kernel_rfl) (by omega) (fun _ => rfl) (fun m cs y hy => fld_stamp hy) h
set_option maxRecDepth 100000 in
theorem fld_op (h : DataW.trod enc Tryd.prog W base (fun _ => true) true fuel 38 cs = some x) : ∃ q : OX, cs = q.cs ∧ q.Ok W := by
 have hl := len_of Tryd.underlying38 h
 rw [show Tryd.prog.cellsOf 38 = 15 by kernel_rfl] at hl
 obtain ⟨m0, y0, g0⟩ := fld_at2 Tryd.underlying38 h 0 rfl 31 0 2 rfl rfl (by kernel_rfl)
 obtain ⟨m1, y1, g1⟩ := fld_at2 Tryd.underlying38 h 1 rfl 3 2 1 rfl rfl (by kernel_rfl)
 obtain ⟨m2, y2, g2⟩ := fld_at2 Tryd.underlying38 h 2 rfl 3 3 1 rfl rfl (by kernel_rfl)
 obtain ⟨m3, y3, g3⟩ := fld_at2 Tryd.underlying38 h 3 rfl 35 4 7 rfl rfl (by kernel_rfl)
 obtain ⟨m4, y4, g4⟩ := fld_at2 Tryd.underlying38 h 4 rfl 3 11 1 rfl rfl (by kernel_rfl)
 obtain ⟨m5, y5, g5⟩ := fld_at2 Tryd.underlying38 h 5 rfl 3 12 1 rfl rfl (by kernel_rfl)
 obtain ⟨m6, y6, g6⟩ := fld_at2 Tryd.underlying38 h 6 rfl 9 13 1 rfl rfl (by kernel_rfl)
 obtain ⟨m7, y7, g7⟩ := fld_at2 Tryd.underlying38 h 7 rfl 36 14 1 rfl rfl (by kernel_rfl)
 obtain ⟨x0, x1, x2, x3, x4, x5, x6, x7, x8, x9, x10, x11, x12, x13, x14, rfl⟩ : ∃ x0 x1 x2 x3 x4 x5 x6 x7 x8 x9 x10 x11 x12 x13 x14, cs = [x0, x1, x2, x3, x4, x5, x6, x7, x8, x9, x10, x11, x12, x13, x14] := by
  rcases cs with _ | ⟨x0, _ | ⟨x1, _ | ⟨x2, _ | ⟨x3, _ | ⟨x4, _ | ⟨x5, _ | ⟨x6, _ | ⟨x7, _ | ⟨x8, _ | ⟨x9, _ | ⟨x10, _ | ⟨x11, _ | ⟨x12, _ | ⟨x13, _ | ⟨x14, _ | ⟨x15, cs⟩⟩⟩⟩⟩⟩⟩⟩⟩⟩⟩⟩⟩⟩⟩⟩ <;> simp at hl
  exact ⟨_, _, _, _, _, _, _, _, _, _, _, _, _, _, _, rfl⟩
 obtain ⟨⟨a0, a1⟩, e0, ba0, ba1⟩ := fld_stamp g0
 simp only [stC, List.drop_zero, List.take_succ_cons, List.take_zero, List.cons.injEq, and_true] at e0
 obtain ⟨rfl, rfl⟩ := e0
 obtain ⟨k, rfl, bk⟩ := fld_i64 Tryd.underlying3 g1
 obtain ⟨rc, rfl, br⟩ := fld_i64 Tryd.underlying3 g2
 obtain ⟨n0, n1, n2, n3, n4, n5, s, e3, b0, b1, b2, b3, b4, b5, bs⟩ := fld_note g3
 simp only [List.drop_succ_cons, List.drop_zero, List.take_succ_cons, List.take_zero, List.cons.injEq, and_true] at e3
 obtain ⟨rfl, rfl, rfl, rfl, rfl, rfl, rfl⟩ := e3
 obtain ⟨se, rfl, bse⟩ := fld_i64 Tryd.underlying3 g4
 obtain ⟨nn, rfl, bnn⟩ := fld_i64 Tryd.underlying3 g5
 obtain ⟨tx, rfl, btx⟩ := fld_string Tryd.underlying9 g6
 obtain ⟨A, l, c, rfl, q1, q2, q3, q4⟩ := fld_stamps g7
 exact ⟨⟨⟨a0, a1, k, rc, n0, n1, n2, n3, n4, n5, s, se, nn, tx, l⟩, A, c⟩, rfl, ⟨ba0, ba1, bk, br, b0, b1, b2, b3, b4, b5, bse, bnn, bs, btx, q3, q2⟩, q1, q4⟩
end
end Go.Proofs.YtcomeidcmcegfaaDoor
