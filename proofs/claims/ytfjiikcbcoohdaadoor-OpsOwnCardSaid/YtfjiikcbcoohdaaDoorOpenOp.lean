/-
  How an operation among the arguments is opened. Conditions: none.
-/
import Derived.Test.YtfjiikcbcoohdaaDoorOpenS
import Derived.Test.YtfjiikcbcoohdaaDoorOpsPlain
namespace Go.Proofs.YtfjiikcbcoohdaaDoor
open Go.RowKit Go.ChangeShapes Go.WideShapes
set_option linter.unusedVariables false

def I64b (n : Int) : Prop := -9223372036854775808 ≤ n ∧ n ≤ 9223372036854775807
/-- each number is an int, each length one that memory allows -/
structure OP.Bd (o : OP) : Prop where
  ac : I64b o.ac
  ad : I64b o.ad
  kd : I64b o.kd
  rc : I64b o.rc
  id : I64b o.id
  ti : I64b o.ti
  pa : I64b o.pa
  sf : I64b o.sf
  st : I64b o.st
  rk : I64b o.rk
  se : I64b o.se
  nn : I64b o.nn
  nt : o.nt.length ≤ maxLen
  tx : o.tx.length ≤ maxLen
  ov : ∀ p ∈ o.ov, I64b p.1 ∧ I64b p.2
  ol : o.ov.length ≤ maxLen
/-- an operation with its list's place -/
structure OX where
  o : OP
  A : Option Addr
  c : Nat
structure OX.Ok (W : World) (x : OX) : Prop where
  bd : x.o.Bd
  rd : Rd W x.A (ovL x.o.ov)
  cap : x.o.ov.length ≤ x.c
def OX.cs (x : OX) : List Value := opC x.o x.A x.c
def stC (p : Int × Int) : List Value := [.int .i64 p.1, .int .i64 p.2]
theorem ovL_flat (l : List (Int × Int)) : ovL l = l.flatMap stC := rfl

section
variable {H : Type} {enc : TypeId × Value → H} {W : World} {base : Nat} {r : Reach} {b0 : Nat} {v : Value} {d : DataW H} {p : List MemPlace} {fuel : Nat} {x : DataW H × List MemPlace} {cs : List Value}
theorem list1 {l : List Value} (h : l.length = 1) : ∃ a, l = [a] := by
  rcases l with _ | ⟨a, _ | ⟨b, l⟩⟩ <;> simp at h
  exact ⟨a, rfl⟩
theorem fld_at2 {P : Program} {t : TypeId} {fs : Array Field} (ht : P.underlying t = some (.struct fs)) (h : DataW.trod enc P W base (fun _ => true) true fuel t cs = some x) (i : Nat) {f : Field} (hf : fs[i]? = some f) (T : TypeId) (k n : Nat)
    (eT : f.type = T) (eo : f.offset = k) (ec : P.cellsOf T = n) : ∃ m y, DataW.trod enc P W base (fun _ => true) true m T ((cs.drop k).take n) = some y := by
  subst eT eo ec
  exact fld_at ht h i hf
theorem fld_stamp (h : DataW.trod enc Tryd.prog W base (fun _ => true) true fuel 23 cs = some x) : ∃ q : Int × Int, cs = stC q ∧ I64b q.1 ∧ I64b q.2 := by
  have hl := len_of Tryd.underlying23 h
  rw [show Tryd.prog.cellsOf 23 = 2 by kernel_rfl] at hl
  obtain ⟨m0, y0, g0⟩ := fld_at2 Tryd.underlying23 h 0 rfl 3 0 1 rfl rfl (by kernel_rfl)
  obtain ⟨m1, y1, g1⟩ := fld_at2 Tryd.underlying23 h 1 rfl 3 1 1 rfl rfl (by kernel_rfl)
  obtain ⟨x0, x1, rfl⟩ : ∃ x0 x1, cs = [x0, x1] := by
    rcases cs with _ | ⟨x0, _ | ⟨x1, _ | ⟨x2, cs⟩⟩⟩ <;> simp at hl
    exact ⟨x0, x1, rfl⟩
  obtain ⟨n, rfl, bn⟩ := fld_i64 Tryd.underlying3 g0
  obtain ⟨k, rfl, bk⟩ := fld_i64 Tryd.underlying3 g1
  exact ⟨(n, k), rfl, bn, bk⟩
theorem fld_pair (t : TypeId) {f0 f1 : Field} (hs : Tryd.prog.underlying t = some (.struct #[f0, f1])) (o0 : f0.offset = 0) (o1 : f1.offset = 1) (t0 : f0.type = 3) (t1 : f1.type = 3) (hC : Tryd.prog.cellsOf t = 2)
    (h : DataW.trod enc Tryd.prog W base (fun _ => true) true fuel t cs = some x) : ∃ a b : Int, cs = [.int .i64 a, .int .i64 b] ∧ I64b a ∧ I64b b := by
  have hl := len_of hs h
  rw [hC] at hl
  obtain ⟨m0, y0, g0⟩ := fld_at hs h 0 (f := f0) rfl
  obtain ⟨m1, y1, g1⟩ := fld_at hs h 1 (f := f1) rfl
  obtain ⟨x0, x1, rfl⟩ : ∃ x0 x1, cs = [x0, x1] := by
    rcases cs with _ | ⟨x0, _ | ⟨x1, _ | ⟨x2, cs⟩⟩⟩ <;> simp at hl
    exact ⟨x0, x1, rfl⟩
  have c1 : Tryd.prog.cellsOf 3 = 1 := by kernel_rfl
  rw [o0, t0, c1] at g0
  rw [o1, t1, c1] at g1
  obtain ⟨n, rfl, bn⟩ := fld_i64 Tryd.underlying3 g0
  obtain ⟨k, rfl, bk⟩ := fld_i64 Tryd.underlying3 g1
  exact ⟨n, k, rfl, bn, bk⟩
theorem fld_note (h : DataW.trod enc Tryd.prog W base (fun _ => true) true fuel 27 cs = some x) :
    ∃ (i t p f o k : Int) (s : List UInt8), cs = [.int .i64 i, .int .i64 t, .int .i64 p, .int .i64 f, .int .i64 o, .int .i64 k, .string ⟨s.toArray⟩] ∧ I64b i ∧ I64b t ∧ I64b p ∧ I64b f ∧ I64b o ∧ I64b k ∧ s.length ≤ maxLen := by
  have hl := len_of Tryd.underlying27 h
  rw [show Tryd.prog.cellsOf 27 = 7 by kernel_rfl] at hl
  obtain ⟨m0, y0, g0⟩ := fld_at2 Tryd.underlying27 h 0 rfl 3 0 1 rfl rfl (by kernel_rfl)
  obtain ⟨m1, y1, g1⟩ := fld_at2 Tryd.underlying27 h 1 rfl 3 1 1 rfl rfl (by kernel_rfl)
  obtain ⟨m2, y2, g2⟩ := fld_at2 Tryd.underlying27 h 2 rfl 3 2 1 rfl rfl (by kernel_rfl)
  obtain ⟨m3, y3, g3⟩ := fld_at2 Tryd.underlying27 h 3 rfl 25 3 2 rfl rfl (by kernel_rfl)
  obtain ⟨m4, y4, g4⟩ := fld_at2 Tryd.underlying27 h 4 rfl 3 5 1 rfl rfl (by kernel_rfl)
  obtain ⟨m5, y5, g5⟩ := fld_at2 Tryd.underlying27 h 5 rfl 9 6 1 rfl rfl (by kernel_rfl)
  obtain ⟨x0, x1, x2, x3, x4, x5, x6, rfl⟩ : ∃ x0 x1 x2 x3 x4 x5 x6, cs = [x0, x1, x2, x3, x4, x5, x6] := by
    rcases cs with _ | ⟨x0, _ | ⟨x1, _ | ⟨x2, _ | ⟨x3, _ | ⟨x4, _ | ⟨x5, _ | ⟨x6, _ | ⟨x7, cs⟩⟩⟩⟩⟩⟩⟩⟩ <;> simp at hl
    exact ⟨_, _, _, _, _, _, _, rfl⟩
  obtain ⟨n0, rfl, b0⟩ := fld_i64 Tryd.underlying3 g0
  obtain ⟨n1, rfl, b1⟩ := fld_i64 Tryd.underlying3 g1
  obtain ⟨n2, rfl, b2⟩ := fld_i64 Tryd.underlying3 g2
  obtain ⟨f, t, e3, b3, b4⟩ := fld_pair 25 Tryd.underlying25 rfl rfl rfl rfl (by kernel_rfl) g3
  simp only [List.drop_succ_cons, List.drop_zero, List.take_succ_cons, List.take_zero, List.cons.injEq, and_true] at e3
  obtain ⟨rfl, rfl⟩ := e3
  obtain ⟨n5, rfl, b5⟩ := fld_i64 Tryd.underlying3 g4
  obtain ⟨s, rfl, bs⟩ := fld_string Tryd.underlying9 g5
  exact ⟨n0, n1, n2, f, t, n5, s, rfl, b0, b1, b2, b3, b4, b5, bs⟩
theorem fld_stamps (h : DataW.trod enc Tryd.prog W base (fun _ => true) true fuel 28 [v] = some x) :
    ∃ (A : Option Addr) (l : List (Int × Int)) (c : Nat), v = .slice A l.length c ∧ Rd W A (ovL l) ∧ l.length ≤ maxLen ∧ (∀ q ∈ l, I64b q.1 ∧ I64b q.2) ∧ l.length ≤ c :=
  fld_list stC (fun q => I64b q.1 ∧ I64b q.2) (s := 2) Tryd.underlying28 (by kernel_rfl) (by omega) (fun _ => rfl) (fun m cs y hy => fld_stamp hy) h
theorem fld_op (h : DataW.trod enc Tryd.prog W base (fun _ => true) true fuel 30 cs = some x) : ∃ q : OX, cs = q.cs ∧ q.Ok W := by
  have hl := len_of Tryd.underlying30 h
  rw [show Tryd.prog.cellsOf 30 = 15 by kernel_rfl] at hl
  obtain ⟨m0, y0, g0⟩ := fld_at2 Tryd.underlying30 h 0 rfl 23 0 2 rfl rfl (by kernel_rfl)
  obtain ⟨m1, y1, g1⟩ := fld_at2 Tryd.underlying30 h 1 rfl 3 2 1 rfl rfl (by kernel_rfl)
  obtain ⟨m2, y2, g2⟩ := fld_at2 Tryd.underlying30 h 2 rfl 3 3 1 rfl rfl (by kernel_rfl)
  obtain ⟨m3, y3, g3⟩ := fld_at2 Tryd.underlying30 h 3 rfl 27 4 7 rfl rfl (by kernel_rfl)
  obtain ⟨m4, y4, g4⟩ := fld_at2 Tryd.underlying30 h 4 rfl 3 11 1 rfl rfl (by kernel_rfl)
  obtain ⟨m5, y5, g5⟩ := fld_at2 Tryd.underlying30 h 5 rfl 3 12 1 rfl rfl (by kernel_rfl)
  obtain ⟨m6, y6, g6⟩ := fld_at2 Tryd.underlying30 h 6 rfl 9 13 1 rfl rfl (by kernel_rfl)
  obtain ⟨m7, y7, g7⟩ := fld_at2 Tryd.underlying30 h 7 rfl 28 14 1 rfl rfl (by kernel_rfl)
  obtain ⟨x0, x1, x2, x3, x4, x5, x6, x7, x8, x9, x10, x11, x12, x13, x14, rfl⟩ : ∃ x0 x1 x2 x3 x4 x5 x6 x7 x8 x9 x10 x11 x12 x13 x14, cs = [x0, x1, x2, x3, x4, x5, x6, x7, x8, x9, x10, x11, x12, x13, x14] := by
    rcases cs with _ | ⟨x0, _ | ⟨x1, _ | ⟨x2, _ | ⟨x3, _ | ⟨x4, _ | ⟨x5, _ | ⟨x6, _ | ⟨x7, _ | ⟨x8, _ | ⟨x9, _ | ⟨x10, _ | ⟨x11, _ | ⟨x12, _ | ⟨x13, _ | ⟨x14, _ | ⟨x15, cs⟩⟩⟩⟩⟩⟩⟩⟩⟩⟩⟩⟩⟩⟩⟩⟩ <;> simp at hl
    exact ⟨_, _, _, _, _, _, _, _, _, _, _, _, _, _, _, rfl⟩
  obtain ⟨⟨a0, a1⟩, e0, ba0, ba1⟩ := fld_stamp g0
  simp only [stC, List.drop_zero, List.take_succ_cons, List.take_zero, List.cons.injEq, and_true] at e0
  obtain ⟨rfl, rfl⟩ := e0
  obtain ⟨k, rfl, bk⟩ := fld_i64 Tryd.underlying3 g1
  obtain ⟨rc, rfl, br⟩ := fld_i64 Tryd.underlying3 g2
  obtain ⟨n0, n1, n2, n3, n4, n5, s, e3, b0, b1, b2, b3, b4, b5, bs⟩ := fld_note g3
  simp only [List.drop_succ_cons, List.drop_zero, List.take_succ_cons, List.take_zero, List.cons.injEq, and_true] at e3
  obtain ⟨rfl, rfl, rfl, rfl, rfl, rfl, rfl⟩ := e3
  obtain ⟨se, rfl, bse⟩ := fld_i64 Tryd.underlying3 g4
  obtain ⟨nn, rfl, bnn⟩ := fld_i64 Tryd.underlying3 g5
  obtain ⟨tx, rfl, btx⟩ := fld_string Tryd.underlying9 g6
  obtain ⟨A, l, c, rfl, q1, q2, q3, q4⟩ := fld_stamps g7
  exact ⟨⟨⟨a0, a1, k, rc, n0, n1, n2, n3, n4, n5, s, se, nn, tx, l⟩, A, c⟩, rfl, ⟨ba0, ba1, bk, br, b0, b1, b2, b3, b4, b5, bse, bnn, bs, btx, q3, q2⟩, q1, q4⟩
theorem arg_op (hv : Value.okWide Tryd.prog W r b0 30 v) (h : DataW.Trod enc Tryd.prog W base (fun _ => true) true 30 v d p) : ∃ q : OX, v = .agg q.cs.toArray ∧ q.Ok W := by
  obtain ⟨cs, rfl, hsz⟩ := okWide_struct Tryd.underlying30 hv
  obtain ⟨fuel, hf⟩ := h
  obtain ⟨q, e, hq⟩ := fld_op hf
  refine ⟨q, ?_, hq⟩
  rw [← e]; rfl
end
end Go.Proofs.YtfjiikcbcoohdaaDoor
