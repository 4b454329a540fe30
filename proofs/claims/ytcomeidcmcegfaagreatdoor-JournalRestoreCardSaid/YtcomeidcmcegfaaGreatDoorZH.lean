/-
  The walks of the reader of layer 49: number, text, stamp. Conditions: the bytes read as a list, fewer than a thousand million.
  What From of layer 49 computes, step by step. Conditions: none; no program in sight.
  A whole struct loaded out of, or stored into, a block of its own, in a region in written order: no unrolling of its cells. Conditions: the block is not frozen.
  The walk of From of layer 49. Conditions: fewer than a thousand million bytes; utf8's tables lie as their initialisers lay them.
  What From of layer 49 computes on the bytes of an operation, cut anywhere or with more bytes behind them, and what bytes it accepts. Conditions: the numbers are int's; no program in sight.
-/
import Derived.Test.YtcomeidcmcegfaaGreatDoorZF
import Derived.Test.YtcomeidcmcegfaaGreatDoorZG
import Derived.Laws.Rows
import Derived.Laws.Tables
import Derived.Deep.DeepCutAuto
namespace Go.Proofs.YtcomeidcmcegfaaGreatDoor
open Go.RowKit
set_option linter.unusedVariables false
def Blk (w : World) (g : Nat) (t : TypeId) (cs : Array Value) : Prop := w.heap[g]? = some (.cells cs t (0, 0))
section
variable {w w' : World} {g : Nat} {t : TypeId} {cs : Array Value}
theorem Blk.lt (h : Blk w g t cs) : g < w.heap.size := (Array.getElem?_eq_some_iff.1 h).1
theorem Blk.cell (h : Blk w g t cs) (i : Nat) : w.cell? ⟨g, i, none⟩ = cs[i]? := cell_of_row w g i cs t (0, 0) h
theorem Blk.free (h : Blk w g t cs) (i : Nat) : w.frozen? ⟨g, i, none⟩ = false := by simp [World.frozen?, show w.heap[g]? = _ from h]
theorem Blk.set (h : Blk w g t cs) (i : Nat) (v : Value) : Blk (w.setCell ⟨g, i, none⟩ v) g t (cs.setIfInBounds i v) := by
 show (w.setCell ⟨g, i, none⟩ v).heap[g]? = _
 simp [World.setCell, Array.getElem?_modify, show w.heap[g]? = _ from h]
theorem Blk.kept {row : Option Nat} (h : Blk w g t cs) (hg : w.grownBy w' row) (hne : some g ≠ row) : Blk w' g t cs := (hg.block g h.lt hne).trans h
theorem Blk.up (h : Blk w g t cs) (u : Up w w') : Blk w' g t cs := (u.b.block g h.lt).trans h
theorem Blk.new (w : World) (t : TypeId) (cs : Array Value) : Blk (w.alloc (.cells cs t)) w.heap.size t cs := heap_alloc_new w _
theorem Blk.drewN (h : Blk w g t cs) (n : Nat) : Blk (w.drewN n) g t cs := h
end
theorem grown_set (w : World) (g i : Nat) (v : Value) : w.grownBy (w.setCell ⟨g, i, none⟩ v) (some g) :=
 ⟨rfl, rfl, rfl, by simp [World.setCell], fun k _ hk => Below.heap_setCell _ _ _ k (fun e => hk (by rw [e]))⟩
theorem grown_drewN (w : World) (n : Nat) (row : Option Nat) : w.grownBy (w.drewN n) row := ⟨rfl, rfl, rfl, Nat.le_refl _, fun _ _ _ => rfl⟩
def Rdr (w : World) (g : Nat) (A : Option Addr) (c : Nat) (l : List UInt8) (q : Int × Int) : Prop := Blk w g 97 #[.slice A l.length c, .int .i64 q.1, .int .i64 q.2]
theorem Rdr.cell {w : World} {g : Nat} {A : Option Addr} {c : Nat} {l : List UInt8} {q : Int × Int} (h : Rdr w g A c l q) (i : Nat) : w.cell? ⟨g, i, none⟩ = (#[.slice A l.length c, .int .i64 q.1, .int .i64 q.2] : Array Value)[i]? := Blk.cell h i
theorem Rdr.free {w : World} {g : Nat} {A : Option Addr} {c : Nat} {l : List UInt8} {q : Int × Int} (h : Rdr w g A c l q) (i : Nat) : w.frozen? ⟨g, i, none⟩ = false := Blk.free h i
theorem Rdr.drewN {w : World} {g : Nat} {A : Option Addr} {c : Nat} {l : List UInt8} {q : Int × Int} (h : Rdr w g A c l q) (n : Nat) : Blk (w.drewN n) g 97 #[.slice A l.length c, .int .i64 q.1, .int .i64 q.2] := h
def rN (l : List UInt8) (q : Int × Int) : Int := if q.2 = 0 then rdN l q.1 else 0
def rQ (l : List UInt8) (q : Int × Int) : Int × Int := if q.2 = 0 then (rdT l q.1, rdE l q.1) else q
def tN (l : List UInt8) (q : Int × Int) : List UInt8 := if q.2 = 0 then txS l q.1 else []
def tQ (l : List UInt8) (q : Int × Int) : Int × Int := if q.2 = 0 then (txT l q.1, txE l q.1) else q
set_option maxRecDepth 100000 in
set_option maxHeartbeats 4000000 in
theorem numRead_any (w : World) (g : Nat) (A : Option Addr) (c : Nat) (l : List UInt8) (q : Int × Int) (hg : Rdr w g A c l q) (h : Rd w A (l.map U8)) (hl : l.length ≤ 1000000000) (hq : -9223372036854775808 ≤ q.1 ∧ q.1 ≤ 9223372036854775807) :
 Calls Tryz.prog 65 #[.pointer (some ⟨g, 0, none⟩)] w fun e w' => e = .returned (.int .i64 (rN l q)) ∧ Rdr w' g A c l (rQ l q) ∧ w.grownBy w' (some g) := by
 obtain ⟨a, e⟩ := q
 have c0 : w.cell? ⟨g, 0, none⟩ = some (.slice A l.length c) := by rw [hg.cell]; rfl
 have c1 : w.cell? ⟨g, 1, none⟩ = some (.int .i64 a) := by rw [hg.cell]; rfl
 have c2 : w.cell? ⟨g, 2, none⟩ = some (.int .i64 e) := by rw [hg.cell]; rfl
 have f1 := hg.free 1
 have f2 := hg.free 2
 by_cases he : e = 0
 ·have q0 : (e != 0) = false := by simpa using he
  have HV := Lib.hid (show rN l (a, e) = rdN l a by unfold rN; exact if_pos he)
  have HQ := Lib.hid (show rQ l (a, e) = (rdT l a, rdE l a) by unfold rQ; exact if_pos he)
  have k : ∀ w', Rd w' A (l.map U8) → Calls Tryz.prog 63 #[.slice A l.length c, .int .i64 a] w' fun en w'' => en = .returned (.tuple #[.int .i64 (rdN l a), .int .i64 (rdT l a), .int .i64 (rdE l a)]) ∧ w'' = w' := fun w' hr => by
   have := int_any w' A c l hr (by omega) a hq.1 hq.2
   exact this.mono fun _ _ h => ⟨h.1, h.2.symm⟩
  clear he
  generalize rdN l a = V at *
  generalize rdT l a = T at *
  generalize rdE l a = E at *
  go_enter Tryz.func65, Tryz.ntmps65
  go_wp2_with fail
  go_quiet ((go_at_call 63; exact Calls.quiet_of_same (k _ (by first | exact h | exact Rd.drew h))))
  go_wp2_with fail
  go_ret
  refine ⟨by rw [HV.out]; rfl, ?_, ?_⟩
  ·rw [HQ.out]
   exact ((Rdr.drewN hg _).set 1 _).set 2 _
  ·exact ((grown_drewN _ _ _).trans (grown_set _ _ _ _)).trans (grown_set _ _ _ _)
 ·have q0 : (e != 0) = true := by simpa using he
  have HV := Lib.hid (show rN l (a, e) = 0 by unfold rN; exact if_neg he)
  have HQ := Lib.hid (show rQ l (a, e) = (a, e) by unfold rQ; exact if_neg he)
  clear he
  go_enter Tryz.func65, Tryz.ntmps65
  go_wp2_with fail
  go_ret
  exact ⟨by rw [HV.out]; rfl, by rw [HQ.out]; exact hg, World.grownBy.refl _ _⟩
set_option maxRecDepth 100000 in
set_option maxHeartbeats 4000000 in
theorem text_read (w : World) (g : Nat) (A : Option Addr) (c : Nat) (l : List UInt8) (q : Int × Int) (hg : Rdr w g A c l q) (h : Rd w A (l.map U8)) (hl : l.length ≤ 1000000000) (hc : l.length ≤ c) (hq : -9223372036854775808 ≤ q.1 ∧ q.1 ≤ 9223372036854775807) :
 Calls Tryz.prog 66 #[.pointer (some ⟨g, 0, none⟩)] w fun e w' => e = .returned (.string ⟨(tN l q).toArray⟩) ∧ Rdr w' g A c l (tQ l q) ∧ w.grownBy w' (some g) := by
 obtain ⟨a, e⟩ := q
 have c0 : w.cell? ⟨g, 0, none⟩ = some (.slice A l.length c) := by rw [hg.cell]; rfl
 have c1 : w.cell? ⟨g, 1, none⟩ = some (.int .i64 a) := by rw [hg.cell]; rfl
 have c2 : w.cell? ⟨g, 2, none⟩ = some (.int .i64 e) := by rw [hg.cell]; rfl
 have f1 := hg.free 1
 have f2 := hg.free 2
 by_cases he : e = 0
 ·have q0 : (e != 0) = false := by simpa using he
  have HV := Lib.hid (show tN l (a, e) = txS l a by unfold tN; exact if_pos he)
  have HQ := Lib.hid (show tQ l (a, e) = (txT l a, txE l a) by unfold tQ; exact if_pos he)
  have k : ∀ w', Rd w' A (l.map U8) → Calls Tryz.prog 90 #[.slice A l.length c, .int .i64 a] w' fun en w'' => en = .returned (.tuple #[.string ⟨(txS l a).toArray⟩, .int .i64 (txT l a), .int .i64 (txE l a)]) ∧ w'' = w' := fun w' hr => by
   have := textAt_any w' A c l hc hr (by omega) a hq.1 hq.2
   exact this.mono fun _ _ h => ⟨h.1, h.2.symm⟩
  clear he
  generalize txS l a = V at *
  generalize txT l a = T at *
  generalize txE l a = E at *
  go_enter Tryz.func66, Tryz.ntmps66
  go_wp2_with fail
  go_quiet ((go_at_call 90; exact Calls.quiet_of_same (k _ (by first | exact h | exact Rd.drew h))))
  go_wp2_with fail
  go_ret
  refine ⟨by rw [HV.out]; rfl, ?_, ?_⟩
  ·rw [HQ.out]
   exact ((Rdr.drewN hg _).set 1 _).set 2 _
  ·exact ((grown_drewN _ _ _).trans (grown_set _ _ _ _)).trans (grown_set _ _ _ _)
 ·have q0 : (e != 0) = true := by simpa using he
  have HV := Lib.hid (show tN l (a, e) = [] by unfold tN; exact if_neg he)
  have HQ := Lib.hid (show tQ l (a, e) = (a, e) by unfold tQ; exact if_neg he)
  clear he
  go_enter Tryz.func66, Tryz.ntmps66
  go_wp2_with fail
  go_ret
  exact ⟨by rw [HV.out]; rfl, by rw [HQ.out]; exact hg, World.grownBy.refl _ _⟩
theorem rdT_bd (l : List UInt8) (a : Int) : 0 ≤ rdT l a ∧ rdT l a ≤ l.length := by
 by_cases h : rdE l a = 0
 ·have h1 := read_bound h
  have := (rdE_ok h).1
  omega
 ·rw [rdT_err h]; omega
theorem rdN_bd (l : List UInt8) (a : Int) : I64b (rdN l a) := by
 by_cases h : rdE l a = 0
 ·have h1 := read_bound h
  exact ⟨h1.1, h1.2.1⟩
 ·rw [rdN_err h]; exact ⟨by omega, by omega⟩
theorem txT_bd (l : List UInt8) (a : Int) : 0 ≤ txT l a ∧ txT l a ≤ l.length := by
 by_cases h : txE l a = 0
 ·have := tx_enc h
  exact ⟨this.2.1, this.2.2.1⟩
 ·unfold txT; rw [if_neg h]; omega
theorem txS_bd (l : List UInt8) (a : Int) : (txS l a).length ≤ l.length := by
 by_cases h : txE l a = 0
 ·have := tx_enc h
  exact this.2.2.2
 ·unfold txS; rw [if_neg h]; simp
def Qok (l : List UInt8) (q : Int × Int) : Prop := 0 ≤ q.1 ∧ q.1 ≤ l.length
theorem Qok.rQ {l : List UInt8} {q : Int × Int} (h : Qok l q) : Qok l (rQ l q) := by
 unfold Go.Proofs.YtcomeidcmcegfaaGreatDoor.rQ; split
 ·exact rdT_bd l q.1
 ·exact h
theorem Qok.tQ {l : List UInt8} {q : Int × Int} (h : Qok l q) : Qok l (tQ l q) := by
 unfold Go.Proofs.YtcomeidcmcegfaaGreatDoor.tQ; split
 ·exact txT_bd l q.1
 ·exact h
theorem rN_bd (l : List UInt8) (q : Int × Int) : I64b (rN l q) := by
 unfold rN; split
 ·exact rdN_bd l q.1
 ·exact ⟨by omega, by omega⟩
theorem tN_bd (l : List UInt8) (q : Int × Int) : (tN l q).length ≤ l.length := by
 unfold tN; split
 ·exact txS_bd l q.1
 ·simp
def Far (A : Option Addr) (l : List Value) (g : Nat) : Prop := l ≠ [] → ∀ b off, A = some ⟨b, off, none⟩ → b ≠ g
theorem Rd.far {w w' : World} {A : Option Addr} {l : List Value} {g : Nat} (h : Rd w A l) (hg : w.grownBy w' (some g)) (hf : Far A l g) : Rd w' A l := by
 intro hl
 obtain ⟨b, off, e, hb, hc⟩ := h hl
 refine ⟨b, off, e, Nat.lt_of_lt_of_le hb hg.size, fun j u hu => hg.cell (hc j u hu) ?_⟩
 intro e'
 exact hf hl b off e (by simpa using e')
theorem Far.of {w : World} {A : Option Addr} {l : List Value} {g : Nat} (h : Rd w A l) (hg : w.heap.size ≤ g) : Far A l g := by
 intro hl b off e
 obtain ⟨b', off', e', hb, _⟩ := h hl
 rw [e] at e'
 injection e' with e'
 injection e' with e1 e2
 omega
theorem Qok.bd {l : List UInt8} {q : Int × Int} (h : Qok l q) (hl : l.length ≤ 1000000000) : -9223372036854775808 ≤ q.1 ∧ q.1 ≤ 9223372036854775807 := by
 have := h.1; have := h.2; omega
set_option maxRecDepth 100000 in
set_option maxHeartbeats 4000000 in
theorem stampRead_any (w : World) (g : Nat) (A : Option Addr) (c : Nat) (l : List UInt8) (q : Int × Int) (hg : Rdr w g A c l q) (h : Rd w A (l.map U8)) (hf : Far A (l.map U8) g) (hl : l.length ≤ 1000000000) (hq : Qok l q) :
 Calls Tryz.prog 64 #[.pointer (some ⟨g, 0, none⟩)] w fun e w' => e = .returned (.agg #[.int .i64 (rN l q), .int .i64 (rN l (rQ l q))]) ∧ Rdr w' g A c l (rQ l (rQ l q)) ∧ w.grownBy w' (some g) := by
 have ga := World.grownBy_alloc w (.cells #[.int .i64 0, .int .i64 0] 36) (some g)
 have hg1 : Rdr (w.alloc (.cells #[.int .i64 0, .int .i64 0] 36)) g A c l q := Blk.kept hg (World.grownBy_alloc w _ none) (by simp)
 have h1 := h.far ga hf
 have hR := Blk.new w 36 #[.int .i64 0, .int .i64 0]
 have hne : some w.heap.size ≠ some g := by have := Blk.lt hg; simp; omega
 have k1 := fun w' (a : Rdr w' g A c l q) (b : Rd w' A (l.map U8)) => numRead_any w' g A c l q a b hl (hq.bd hl)
 have k2 := fun w' (a : Rdr w' g A c l (rQ l q)) (b : Rd w' A (l.map U8)) => numRead_any w' g A c l (rQ l q) a b hl (hq.rQ.bd hl)
 clear hq
 generalize rN l (rQ l q) = V2 at *
 generalize rQ l (rQ l q) = Q2 at *
 generalize rN l q = V1 at *
 generalize rQ l q = Q1 at *
 go_enter Tryz.func64, Tryz.ntmps64
 go_wp2_with fail
 refine (k1 _ hg1 h1).mono ?_
 rintro e w2 ⟨rfl, hg2, gr2⟩
 have h2 := h1.far gr2 hf
 have hR2 := hR.kept gr2 hne
 clear k1 hg1 h1
 go_wp2_with fail
 refine (k2 _ hg2 h2).mono ?_
 rintro e w3 ⟨rfl, hg3, gr3⟩
 have hR3 := hR2.kept gr3 hne
 have c0 : w3.cell? ⟨w.heap.size, 0, none⟩ = some (.int .i64 0) := by rw [hR3.cell]; rfl
 have c1 : w3.cell? ⟨w.heap.size, 1, none⟩ = some (.int .i64 0) := by rw [hR3.cell]; rfl
 have f0 := hR3.free 0
 have f1 := hR3.free 1
 clear k2 hR hR2
 go_wp2_with fail
 refine bodyPost_ret (v := .agg #[.int .i64 V1, .int .i64 V2]) (by simp [results, Tryz.results64, go_sem, c0, c1]) rfl ⟨rfl, ?_, ?_⟩
 ·exact Blk.kept (Blk.kept hg3 (grown_set _ w.heap.size 0 (.int .i64 V1)) hne.symm) (grown_set _ w.heap.size 1 (.int .i64 V2)) hne.symm
 ·have gg := (ga.trans gr2).trans gr3
  refine ⟨gg.os, gg.tape, gg.output, ?_, fun k hk hkg => ?_⟩
  ·simpa [World.setCell] using gg.size
  ·rw [← gg.block k hk hkg]
   exact (Below.heap_setCell _ _ _ k (by simp; omega)).trans (Below.heap_setCell _ _ _ k (by simp; omega))
end Go.Proofs.YtcomeidcmcegfaaGreatDoor
namespace Go.Proofs.YtcomeidcmcegfaaGreatDoor
open Go.RowKit
set_option linter.unusedVariables false
def nR (l : List UInt8) : Nat → List Int × (Int × Int)
 | 0 => ([], (0, 0))
 | k + 1 => ((nR l k).1 ++ [rN l (nR l k).2], rQ l (nR l k).2)
theorem nR_len (l : List UInt8) (k : Nat) : (nR l k).1.length = k := by
 induction k with
 | zero => rfl
 | succ k ih => simp [nR, ih]
theorem nR_ok (l : List UInt8) (k : Nat) : Qok l (nR l k).2 := by
 induction k with
 | zero => exact ⟨by show (0 : Int) ≤ 0; omega, by show (0 : Int) ≤ _; omega⟩
 | succ k ih => exact ih.rQ
theorem nR_bd (l : List UInt8) (k : Nat) : ∀ x ∈ (nR l k).1, I64b x := by
 induction k with
 | zero => simp [nR]
 | succ k ih =>
  intro x hx
  rw [nR] at hx
  rcases List.mem_append.1 hx with h | h
  ·exact ih x h
  ·rw [List.mem_singleton.1 h]; exact rN_bd _ _
def sGo (l : List UInt8) : Nat → Int × Int → List (Int × Int) × (Int × Int)
 | 0, q => ([], q)
 | k + 1, q => if q.2 = 0 then ((rN l q, rN l (rQ l q)) :: (sGo l k (rQ l (rQ l q))).1, (sGo l k (rQ l (rQ l q))).2) else ([], q)
theorem sGo_stop {l : List UInt8} {k : Nat} {q : Int × Int} (h : q.2 ≠ 0) : sGo l k q = ([], q) := by
 cases k with
 | zero => rfl
 | succ k => rw [sGo, if_neg h]
def opOf (v : List Int) : OP := ⟨v.getD 0 0, v.getD 1 0, v.getD 2 0, v.getD 3 0, v.getD 4 0, v.getD 5 0, v.getD 6 0, v.getD 7 0, v.getD 8 0, v.getD 9 0, [], 0, 0, [], []⟩
def fQ0 (l : List UInt8) : Int × Int := (nR l 10).2
def fQ1 (l : List UInt8) : Int × Int := tQ l (fQ0 l)
def fQ2 (l : List UInt8) : Int × Int := rQ l (fQ1 l)
def fQ3 (l : List UInt8) : Int × Int := rQ l (fQ2 l)
def fQ4 (l : List UInt8) : Int × Int := tQ l (fQ3 l)
def fQ5 (l : List UInt8) : Int × Int := rQ l (fQ4 l)
def fN (l : List UInt8) : Int := rN l (fQ4 l)
def fQ6 (l : List UInt8) : Int × Int := if (fQ5 l).2 = 0 ∧ (fN l < 0 ∨ 16 < fN l) then ((fQ5 l).1, 3) else fQ5 l
def fS (l : List UInt8) : List (Int × Int) × (Int × Int) := sGo l (fN l).toNat (fQ6 l)
def fQ8 (l : List UInt8) : Int × Int := if (fS l).2.2 = 0 ∧ (fS l).2.1 < l.length then ((fS l).2.1, 3) else (fS l).2
def fO (l : List UInt8) : OP := { opOf (nR l 10).1 with nt := tN l (fQ0 l), se := rN l (fQ1 l), nn := rN l (fQ2 l), tx := tN l (fQ3 l), ov := (fS l).1 }
def fE (l : List UInt8) : Int := orE (fQ8 l).2 (checkE (fO l))
def fR (l : List UInt8) : OP := if fE l = 0 then fO l else OP.zero
end Go.Proofs.YtcomeidcmcegfaaGreatDoor
namespace Go.Proofs.YtcomeidcmcegfaaGreatDoor
open Go.RowKit
set_option linter.unusedVariables false
section
variable {P : Program} {w : World} {ops : Array Oper} {rest : List Oper} {o : Oper} {a : Act} {Q : Exit → Act → World → Prop}
theorem Blk.row {g : Nat} {ty : TypeId} {c : Array Value} (c' : Array Value) (h : Blk w g ty c) : Blk (w.setRow g c') g ty c' := by
 show (w.setRow g c').heap[g]? = _
 simp [World.setRow, Array.getElem?_modify, show w.heap[g]? = _ from h]
theorem grown_row (w : World) (g : Nat) (c' : Array Value) : w.grownBy (w.setRow g c') (some g) :=
 ⟨rfl, rfl, rfl, by simp [World.setRow], fun k _ hk => by
  show (w.setRow g c').heap[k]? = _
  have : g ≠ k := fun e => hk (by rw [e])
  simp [World.setRow, Array.getElem?_modify, this]⟩
theorem wpList_storeRow (hgd : o.guard = none) (t : TypeId) (p x : Operand) (ho : o.op = .store t p x) (g : Nat) (ty : TypeId) (c c' : Array Value) (hp : a.eval p = .pointer (some ⟨g, 0, none⟩)) (hx : a.eval x = .agg c')
 (hg : Blk w g ty c) (hi : (P.info? t).map (·.size) = some c'.size) (hs : c.size = c'.size) (h1 : c'.all (·.oneCell') = true)
 (h : ∀ W, Blk W g ty c' → w.grownBy W (some g) → wpList P ops Q rest (a.put o.dst undef) W) : wpList P ops Q (o :: rest) a w := by
 refine wpList_plain hgd fun _ hK => ?_
 have hrun := run_storeVar_row (P := P) w g ty t c c' hg hi hs h1
 unfold Oper.wp execOp
 simp only [ho, Instr.storeAt, Instr.sureAddr, Sem.run_bind, Sem.run_pure, Result.andThen_ok, hp, hx, hrun]
 exact hK _ _ (h _ (hg.row c') (grown_row w g c'))
theorem wpList_loadRow (hgd : o.guard = none) (t : TypeId) (p : Operand) (ho : o.op = .load t p) (g : Nat) (ty : TypeId) (c : Array Value) (d : TypeDesc) (hp : a.eval p = .pointer (some ⟨g, 0, none⟩))
 (hg : Blk w g ty c) (hu : P.underlying t = some d) (hd : (match d with | .struct _ | .array _ _ => true | _ => false) = true) (hi : (P.info? t).map (·.size) = some c.size)
 (h : wpList P ops Q rest (a.put o.dst (.agg c)) w) : wpList P ops Q (o :: rest) a w := by
 refine wpList_plain hgd fun _ hK => ?_
 have hrun := run_loadVar_row (P := P) w g ty t c (0, 0) d hg hu hd hi
 unfold Oper.wp execOp
 simp only [ho, Instr.loadAt, Instr.sureAddr, Sem.run_bind, Sem.run_pure, Result.andThen_ok, hp, hrun]
 exact hK _ _ h
theorem results_row {fn : Func} {tmps : Array Value} {x y g : Nat} {t : TypeId} {v u : Value} (hr : fn.results = #[.cell x t, .tmp y]) (hx : tmps.getD x undef = .pointer (some ⟨g, 0, none⟩)) (hy : tmps.getD y undef = u)
 (hl : (loadVar t ⟨g, 0, none⟩).run P w = .ok v w) : (results fn tmps).run P w = .ok (.tuple #[v, u]) w := by
 unfold results
 rw [hr]
 simp only [List.mapM_toArray, List.mapM_cons, List.mapM_nil, hx, hy, asAddr, Sem.run_bind, Sem.run_pure, Result.andThen_ok, hl, map_eq_pure_bind]
 rfl
theorem load_row {g : Nat} {t ty : TypeId} {c : Array Value} {d : TypeDesc} (hg : Blk w g ty c) (hu : P.underlying t = some d) (hd : (match d with | .struct _ | .array _ _ => true | _ => false) = true) (hi : (P.info? t).map (·.size) = some c.size) :
 (loadVar t ⟨g, 0, none⟩).run P w = .ok (.agg c) w := run_loadVar_row (P := P) w g ty t c (0, 0) d hg hu hd hi
end
end Go.Proofs.YtcomeidcmcegfaaGreatDoor
namespace Go.Proofs.YtcomeidcmcegfaaGreatDoor
open Go.RowKit
set_option linter.unusedVariables false
set_option linter.unusedSimpArgs false
def zero15 : Array Value := (opC OP.zero none 0).toArray
structure FS (w : World) (B : Nat) (A : Option Addr) (c : Nat) (l : List UInt8) (o : OP) (Ao : Option Addr) (co : Nat) (q : Int × Int) (wr : World) : Prop where
 rz : Blk wr w.heap.size 43 zero15
 rd : Rdr wr (w.heap.size + 1) A c l q
 ob : Blk wr B 43 (opC o Ao co).toArray
 be : Below w.heap.size w wr
 lt : w.heap.size + 1 < B
section
variable {w wr wr' : World} {B : Nat} {A Ao : Option Addr} {c co : Nat} {l : List UInt8} {o o' : OP} {q q' : Int × Int}
theorem FS.read (h : FS w B A c l o Ao co q wr) (hg : Rdr wr' (w.heap.size + 1) A c l q') (g : wr.grownBy wr' (some (w.heap.size + 1))) : FS w B A c l o Ao co q' wr' :=
 ⟨h.rz.kept g (by simp), hg, h.ob.kept g (by have := h.lt; simp; omega), h.be.grown g h.be.size (fun k e => by cases e; omega), h.lt⟩
theorem FS.put (h : FS w B A c l o Ao co q wr) (i : Nat) (v : Value) (e : ((opC o Ao co).toArray.setIfInBounds i v) = (opC o' Ao co).toArray) : FS w B A c l o' Ao co q (wr.setCell ⟨B, i, none⟩ v) :=
 ⟨h.rz.kept (grown_set _ _ _ _) (by have := h.lt; simp; omega), Blk.kept h.rd (grown_set _ _ _ _) (by have := h.lt; simp; omega), by rw [← e]; exact h.ob.set i v,
  h.be.setCell (p := ⟨B, i, none⟩) (by have := h.lt; show w.heap.size ≤ B; omega) _, h.lt⟩
theorem FS.err (h : FS w B A c l o Ao co q wr) (e : Int) : FS w B A c l o Ao co (q.1, e) (wr.setCell ⟨w.heap.size + 1, 2, none⟩ (.int .i64 e)) :=
 h.read (Blk.set h.rd 2 (.int .i64 e)) (grown_set _ _ _ _)
theorem FS.up (h : FS w B A c l o Ao co q wr) (u : Up wr wr') : FS w B A c l o Ao co q wr' := ⟨h.rz.up u, Blk.up h.rd u, h.ob.up u, stepB h.be u.b, h.lt⟩
theorem FS.opAt (h : FS w B A c l o Ao co q wr) : OpAt wr B o Ao co := OpAt.of fun j u hu => by rw [h.ob.cell]; simpa using hu
end
theorem opOf_set (v : List Int) (x : Int) (h : v.length < 10) : (opC (opOf v) none 0).toArray.setIfInBounds v.length (.int .i64 x) = (opC (opOf (v ++ [x])) none 0).toArray := by
 rcases v with _ | ⟨a0, _ | ⟨a1, _ | ⟨a2, _ | ⟨a3, _ | ⟨a4, _ | ⟨a5, _ | ⟨a6, _ | ⟨a7, _ | ⟨a8, _ | ⟨a9, v⟩⟩⟩⟩⟩⟩⟩⟩⟩⟩
 all_goals first | rfl | (simp at h; omega)
theorem opOf_cell (v : List Int) (k : Nat) (h : k < 10) : ∃ x, (opC (opOf v) none 0).toArray[k]? = some (.int .i64 x) := by
 rcases k with _ | _ | _ | _ | _ | _ | _ | _ | _ | _ | k
 all_goals first | exact ⟨_, rfl⟩ | omega
def ptrs (B : Nat) : List Value := (List.range 8).map fun k => .pointer (some ⟨B, 2 + k, none⟩)
theorem ptrs_at (B k : Nat) (h : k < 8) : (ptrs B)[k]? = some (.pointer (some ⟨B, 2 + k, none⟩)) := by simp [ptrs, h]
def FromRel1 (w : World) (B : Nat) (A : Option Addr) (c : Nat) (l : List UInt8) (vi : Value) (wr : World) : Prop :=
 ∃ k : Nat, k ≤ 8 ∧ vi = .int .i64 k ∧ FS w B A c l (opOf (nR l (2 + k)).1) none 0 (nR l (2 + k)).2 wr ∧ Blk wr (B + 1) 99 (ptrs B).toArray
theorem info_st : (Tryz.prog.info? 36).map (fun i => (i.zero, i.size, i.bytes)) = some (some (.agg #[.int .i64 0, .int .i64 0]), 2, 16) := by kernel_rfl
theorem Own.farRow {w : World} {base : Nat} {e : TypeId} {size n g : Nat} {v : Value} {xs : List Value} (h : Own w base e size v n xs) (hg : g < base) : v.ownBlock = none ∨ v.ownBlock ≠ some g := by
 rcases hv : v.ownBlock with _ | k
 ·exact .inl rfl
 ·refine .inr fun e => ?_
  injection e with e
  have := (h.lt k hv).1
  omega
theorem FS.grown {w wr wr' : World} {B : Nat} {A Ao : Option Addr} {c co : Nat} {l : List UInt8} {o : OP} {q : Int × Int} {row : Option Nat} (h : FS w B A c l o Ao co q wr) (g : wr.grownBy wr' row) (hr : ∀ k, row = some k → B < k) : FS w B A c l o Ao co q wr' := by
 have hl := h.lt
 have ne : ∀ k, k ≤ B → some k ≠ row := fun k hk e => by have := hr k e.symm; omega
 exact ⟨h.rz.kept g (ne _ (by omega)), Blk.kept h.rd g (ne _ (by omega)), h.ob.kept g (ne _ (by omega)), h.be.grown g h.be.size (fun k e => by have := hr k e; omega), h.lt⟩
theorem FS.putOv {w wr : World} {B : Nat} {A Ao : Option Addr} {c co : Nat} {l : List UInt8} {o : OP} {q : Int × Int} {acc' : List (Int × Int)} (h : FS w B A c l o Ao co q wr) (A' : Option Addr) (c' : Nat) :
 FS w B A c l { o with ov := acc' } A' c' q (wr.setCell ⟨B, 14, none⟩ (.slice A' acc'.length c')) :=
 ⟨h.rz.kept (grown_set _ _ _ _) (by have := h.lt; simp; omega), Blk.kept h.rd (grown_set _ _ _ _) (by have := h.lt; simp; omega), h.ob.set 14 _,
  h.be.setCell (p := ⟨B, 14, none⟩) (by have := h.lt; show w.heap.size ≤ B; omega) _, h.lt⟩
theorem sz_set {n : Nat} {w : World} {p : Addr} {v : Value} (h : n ≤ w.heap.size) : n ≤ (w.setCell p v).heap.size := by simpa [World.setCell] using h
def RetOp (o : OP) (n : Int) (w : World) (e : Ending) (w' : World) : Prop := ∃ A c, e = .returned (.tuple #[opV o A c, .int .i64 n]) ∧ Rd w' A (ovL o.ov) ∧ o.ov.length ≤ c ∧ Below w.heap.size w w'
def RetOpW (o : OP) (n : Int) (w : World) (e : Ending) (w' : World) : Prop := ∃ A c, e = .returned (.tuple #[opV o A c, .int .i64 n]) ∧ Own w' w.heap.size 36 2 (.slice A o.ov.length c) o.ov.length (ovL o.ov) ∧ Below w.heap.size w w'
theorem RetOpW.weak {o : OP} {n : Int} {w : World} {e : Ending} {w' : World} (h : RetOpW o n w e w') : RetOp o n w e w' := by
 obtain ⟨A, c, h1, h2, h3⟩ := h
 obtain ⟨A', c', e', q, r⟩ := h2.rd
 cases e'
 exact ⟨A, c, h1, r, q, h3⟩
theorem opC_one (o : OP) (A : Option Addr) (c : Nat) : ((opC o A c).toArray.all (·.oneCell')) = true := by simp [opC, Value.oneCell']
theorem getD_bd {v : List Int} (h : ∀ x ∈ v, I64b x) (i : Nat) : I64b (v.getD i 0) := by
 rw [List.getD_eq_getElem?_getD]
 rcases e : v[i]? with _ | x
 ·exact ⟨by decide, by decide⟩
 ·exact h x (List.mem_of_getElem? e)
theorem sGo_bd (l : List UInt8) (k : Nat) (q : Int × Int) : ∀ p ∈ (sGo l k q).1, I64b p.1 ∧ I64b p.2 := by
 induction k generalizing q with
 | zero => simp [sGo]
 | succ k ih =>
  intro p hp
  rw [sGo] at hp
  split at hp
  ·rcases List.mem_cons.1 hp with rfl | hp
   ·exact ⟨rN_bd _ _, rN_bd _ _⟩
   ·exact ih _ p hp
  ·simp at hp
theorem sGo_len (l : List UInt8) (k : Nat) (q : Int × Int) : (sGo l k q).1.length ≤ k := by
 induction k generalizing q with
 | zero => simp [sGo]
 | succ k ih =>
  rw [sGo]
  split
  ·have := ih (rQ l (rQ l q)); simp; omega
  ·simp
theorem fQ6_ok {l : List UInt8} (h : (fQ6 l).2 = 0) : 0 ≤ fN l ∧ fN l ≤ 16 := by
 unfold fQ6 at h
 split at h
 ·simp at h
 ·rename_i h'
  by_cases hn : 0 ≤ fN l ∧ fN l ≤ 16
  ·exact hn
  ·exact absurd ⟨h, by omega⟩ h'
theorem fS_len (l : List UInt8) : (fS l).1.length ≤ 16 := by
 unfold fS
 by_cases h : (fQ6 l).2 = 0
 ·have := sGo_len l (fN l).toNat (fQ6 l)
  have := fQ6_ok h
  omega
 ·rw [sGo_stop h]; simp
theorem fO_bd (l : List UInt8) (hl : l.length ≤ 1000000000) : (fO l).Bd := by
 have g := getD_bd (nR_bd l 10)
 exact ⟨g 0, g 1, g 2, g 3, g 4, g 5, g 6, g 7, g 8, g 9, rN_bd _ _, rN_bd _ _, by have := tN_bd l (fQ0 l); simp only [maxLen]; show (tN l (fQ0 l)).length ≤ _; omega,
  by have := tN_bd l (fQ3 l); simp only [maxLen]; show (tN l (fQ3 l)).length ≤ _; omega, sGo_bd _ _ _, by have := fS_len l; simp only [maxLen]; show (fS l).1.length ≤ _; omega⟩
theorem first2 (w : World) (A : Option Addr) (a b : Int) (c : Nat) (h : Rd w A [.int .i64 a, .int .i64 b]) : Calls Tryz.prog 67 #[.slice A 2 c] w fun e w' => e = .returned (.int .i64 (orE a b)) ∧ w = w' := by
 have := first_list w A [a, b] c h (by simp)
 refine this.mono ?_
 rintro e w' ⟨rfl, rfl⟩
 refine ⟨?_, rfl⟩
 simp only [firstE, orE]
 by_cases hb : b = 0 <;> simp [hb]
theorem ovL_append (l : List (Int × Int)) (x y : Int) : ovL (l ++ [(x, y)]) = ovL l ++ [.int .i64 x, .int .i64 y] := by simp [ovL]
def FromRel2 (w : World) (B : Nat) (A : Option Addr) (c : Nat) (l : List UInt8) (o : OP) (N : Int) (fs : List (Int × Int) × (Int × Int)) (vi : Value) (wr : World) : Prop :=
 ∃ (i : Nat) (acc : List (Int × Int)) (Ao : Option Addr) (co : Nat) (q : Int × Int), vi = .int .i64 i ∧ i ≤ 16 ∧ acc.length = i ∧ FS w B A c l { o with ov := acc } Ao co q wr ∧
  Own wr (B + 2) 36 2 (.slice Ao acc.length co) acc.length (ovL acc) ∧ Hid (fs = (acc ++ (sGo l (N.toNat - i) q).1, (sGo l (N.toNat - i) q).2)) ∧ Qok l q ∧ Hid (q.2 = 0 → N ≤ 16) ∧ B + 2 ≤ wr.heap.size
set_option maxRecDepth 100000 in
set_option maxHeartbeats 16000000 in
theorem from_anyW (w : World) (A : Option Addr) (c : Nat) (l : List UInt8) (h : Rd w A (l.map U8)) (hl : l.length ≤ 1000000000) (hlc : l.length ≤ c) (hT : Tabs w) :
 Calls Tryz.prog 39 #[.slice A l.length c] w (RetOpW (fR l) (fE l) w) := by
 have hf : Far A (l.map U8) (w.heap.size + 1) := Far.of h (by omega)
 have kS := fun w' (a : Rdr w' (w.heap.size + 1) A c l (0, 0)) (b : Below w.heap.size w w') => stampRead_any w' (w.heap.size + 1) A c l (0, 0) a (h.below b) hf hl (nR_ok l 0)
 obtain ⟨W0, hW0⟩ : ∃ x, (w.alloc (.cells zero15 43)).alloc (.cells #[.slice A l.length c, .int .i64 0, .int .i64 0] 97) = x := ⟨_, rfl⟩
 have hb0 : Below w.heap.size w W0 := by rw [← hW0]; exact ((Below.refl _ _).alloc (Nat.le_refl _) _).alloc (by simp) _
 have hz0 : Blk W0 w.heap.size 43 zero15 := by rw [← hW0]; exact (Blk.new w _ _).up (Up.alloc' _ _)
 have hg0 : Rdr W0 (w.heap.size + 1) A c l (0, 0) := by rw [← hW0]; exact (show Blk _ (w.heap.size + 1) _ _ by have := Blk.new (w.alloc (.cells zero15 43)) 97 #[.slice A l.length c, .int .i64 0, .int .i64 0]; rw [World.size_alloc] at this; exact this)
 have HW0 := Lib.hid hW0
 clear hW0
 go_enter Tryz.func39, Tryz.ntmps39
 go_wp2_with fail
 have HW0' := HW0.out
 simp only [zero15, opC, OP.zero] at HW0'
 simp only [List.length_nil] at HW0'
 simp only [HW0']
 clear HW0 HW0'
 refine (kS _ hg0 hb0).mono ?_
 rintro e w3 ⟨rfl, hg3, gr3⟩
 have hz3 := hz0.kept gr3 (by simp)
 have hb3 := hb0.grown gr3 hb0.size (fun k e => by cases e; omega)
 have hlt : w.heap.size + 1 < w3.heap.size := Blk.lt hg3
 clear kS hg0 hz0 hb0 gr3
 have e2 : nR l 2 = ([rN l (0, 0), rN l (rQ l (0, 0))], rQ l (rQ l (0, 0))) := rfl
 obtain ⟨W4, hW4⟩ : ∃ x, (w3.alloc (.cells (opC (opOf (nR l 2).1) none 0).toArray 43)).alloc (.cells (ptrs w3.heap.size).toArray 99) = x := ⟨_, rfl⟩
 have hu4 : Up w3 W4 := by rw [← hW4]; exact (Up.alloc' _ _).trans (Up.alloc' _ _)
 have hP4 : Blk W4 (w3.heap.size + 1) 99 (ptrs w3.heap.size).toArray := by
  rw [← hW4]
  have := Blk.new (w3.alloc (.cells (opC (opOf (nR l 2).1) none 0).toArray 43)) 99 (ptrs w3.heap.size).toArray
  rw [World.size_alloc] at this; exact this
 have hO4 : Blk W4 w3.heap.size 43 (opC (opOf (nR l 2).1) none 0).toArray := by rw [← hW4]; exact (Blk.new w3 _ _).up (Up.alloc' _ _)
 have F0 : FS w w3.heap.size A c l (opOf (nR l 2).1) none 0 (nR l 2).2 W4 := ⟨hz3.up hu4, by rw [e2]; exact Blk.up hg3 hu4, hO4, stepB hb3 hu4.b, hlt⟩
 rw [e2] at hW4
 have HW4 := Lib.hid hW4
 clear hW4 hu4 hO4 hz3 hb3 hg3 e2
 generalize rN l (rQ l (0, 0)) = V2 at *
 generalize rN l (0, 0) = V1 at *
 go_wp2_with fail
 have HW4' := HW4.out
 simp only [ptrs, List.range, List.range.loop, List.map_cons, List.map_nil, opC, opOf, List.getD, List.getElem?_cons_zero, List.getElem?_cons_succ, List.getElem?_nil, Option.getD_some, Option.getD_none, List.length_nil, Nat.reduceAdd] at HW4'
 simp only [HW4']
 clear HW4 HW4'
 generalize w3.heap.size = B at *
 go_loopw [35] (FromRel1 w B A c l) (fun i _ => 8 - (intOf i).toNat)
 case atStart => exact ⟨0, by omega, rfl, F0, hP4⟩
 case round =>
  clear F0 hP4
  obtain ⟨k, hk, rfl, F, hP⟩ := hrel
  by_cases hlt8 : k < 8
  ·have t1 : decide ((k : Int) < 8) = true := decide_eq_true (by omega)
   have hp : wr.cell? ⟨B + 1, k, none⟩ = some (.pointer (some ⟨B, 2 + k, none⟩)) := by rw [hP.cell]; simpa using ptrs_at B k hlt8
   have kN := numRead_any wr (w.heap.size + 1) A c l (nR l (2 + k)).2 F.rd (h.below F.be) hl ((nR_ok l (2 + k)).bd hl)
   have en : nR l (2 + (k + 1)) = ((nR l (2 + k)).1 ++ [rN l (nR l (2 + k)).2], rQ l (nR l (2 + k)).2) := rfl
   have hs := opOf_set (nR l (2 + k)).1 (rN l (nR l (2 + k)).2) (by rw [nR_len]; omega)
   rw [nR_len] at hs
   obtain ⟨x0, hx0⟩ := opOf_cell (nR l (2 + k)).1 (2 + k) (by omega)
   have Hs := Lib.hid hs
   have En := Lib.hid en
   clear hs en
   generalize rN l (nR l (2 + k)).2 = V at *
   generalize rQ l (nR l (2 + k)).2 = Q at *
   go_wp2_with fail
   refine kN.mono ?_
   rintro e w5 ⟨rfl, hg5, gr5⟩
   have F5 := F.read hg5 gr5
   have hP5 := hP.kept gr5 (by have := F.lt; simp; omega)
   have c5 : w5.cell? ⟨B, 2 + k, none⟩ = some (.int .i64 x0) := by rw [F5.ob.cell, hx0]
   have f5 := F5.ob.free (2 + k)
   clear kN
   go_wp2_with fail
   go_roundw
   case rel =>
    refine ⟨k + 1, hlt8, by go_num, ?_, hP5.kept (grown_set _ B (2 + k) (.int .i64 V)) (by simp)⟩
    rw [En.out]
    exact F5.put (2 + k) (.int .i64 V) Hs.out
   case measure => simp [intOf]; omega
  ·obtain rfl : k = 8 := by omega
   have t1 : decide (((8 : Nat) : Int) < 8) = false := by decide
   have F0 : FS w B A c l (opOf (nR l 10).1) none 0 (fQ0 l) wr := F
   have z0 : B + 2 ≤ wr.heap.size := Blk.lt hP
   clear F hP
   have kT0 : Calls Tryz.prog 66 #[.pointer (some ⟨w.heap.size + 1, 0, none⟩)] wr fun e w'' => e = .returned (.string ⟨(tN l (fQ0 l)).toArray⟩) ∧ Rdr w'' (w.heap.size + 1) A c l (fQ1 l) ∧ wr.grownBy w'' (some (w.heap.size + 1)) := text_read wr (w.heap.size + 1) A c l (fQ0 l) F0.rd (h.below F0.be) hl hlc ((nR_ok l 10).bd hl)
   have q0 := nR_ok l 10
   have q1 : Qok l (fQ1 l) := Qok.tQ q0
   have q2 : Qok l (fQ2 l) := Qok.rQ q1
   have q3 : Qok l (fQ3 l) := Qok.rQ q2
   have q4 : Qok l (fQ4 l) := Qok.tQ q3
   have q5 : Qok l (fQ5 l) := Qok.rQ q4
   have kN1 : ∀ w', Rdr w' (w.heap.size + 1) A c l (fQ1 l) → Below w.heap.size w w' → Calls Tryz.prog 65 #[.pointer (some ⟨w.heap.size + 1, 0, none⟩)] w' fun e w'' => e = .returned (.int .i64 (rN l (fQ1 l))) ∧ Rdr w'' (w.heap.size + 1) A c l (fQ2 l) ∧ w'.grownBy w'' (some (w.heap.size + 1)) := fun w' a b => numRead_any w' (w.heap.size + 1) A c l (fQ1 l) a (h.below b) hl (q1.bd hl)
   have kN2 : ∀ w', Rdr w' (w.heap.size + 1) A c l (fQ2 l) → Below w.heap.size w w' → Calls Tryz.prog 65 #[.pointer (some ⟨w.heap.size + 1, 0, none⟩)] w' fun e w'' => e = .returned (.int .i64 (rN l (fQ2 l))) ∧ Rdr w'' (w.heap.size + 1) A c l (fQ3 l) ∧ w'.grownBy w'' (some (w.heap.size + 1)) := fun w' a b => numRead_any w' (w.heap.size + 1) A c l (fQ2 l) a (h.below b) hl (q2.bd hl)
   have kT3 : ∀ w', Rdr w' (w.heap.size + 1) A c l (fQ3 l) → Below w.heap.size w w' → Calls Tryz.prog 66 #[.pointer (some ⟨w.heap.size + 1, 0, none⟩)] w' fun e w'' => e = .returned (.string ⟨(tN l (fQ3 l)).toArray⟩) ∧ Rdr w'' (w.heap.size + 1) A c l (fQ4 l) ∧ w'.grownBy w'' (some (w.heap.size + 1)) := fun w' a b => text_read w' (w.heap.size + 1) A c l (fQ3 l) a (h.below b) hl hlc (q3.bd hl)
   have kN4 : ∀ w', Rdr w' (w.heap.size + 1) A c l (fQ4 l) → Below w.heap.size w w' → Calls Tryz.prog 65 #[.pointer (some ⟨w.heap.size + 1, 0, none⟩)] w' fun e w'' => e = .returned (.int .i64 (fN l)) ∧ Rdr w'' (w.heap.size + 1) A c l (fQ5 l) ∧ w'.grownBy w'' (some (w.heap.size + 1)) := fun w' a b => numRead_any w' (w.heap.size + 1) A c l (fQ4 l) a (h.below b) hl (q4.bd hl)
   have eO : Hid (fO l = { opOf (nR l 10).1 with nt := tN l (fQ0 l), se := rN l (fQ1 l), nn := rN l (fQ2 l), tx := tN l (fQ3 l), ov := (fS l).1 }) := rfl
   have hBD : Hid (fO l).Bd := fO_bd l hl
   have bd : (opOf (nR l 10).1).ov = [] := rfl
   generalize opOf (nR l 10).1 = o0 at *
   obtain ⟨a0, a1, a2, a3, a4, a5, a6, a7, a8, a9, y0, y1, y2, y3, y4⟩ := o0
   obtain rfl : y4 = [] := bd
   generalize tN l (fQ0 l) = NT at *
   generalize rN l (fQ1 l) = SE at *
   generalize rN l (fQ2 l) = NN at *
   generalize tN l (fQ3 l) = TX at *
   go_wp2_with fail
   refine kT0.mono ?_
   rintro e w5 ⟨rfl, hg5, gr5⟩
   have F5 := F0.read hg5 gr5
   have z5 := Nat.le_trans z0 gr5.size
   have c5 : w5.cell? ⟨B, 10, none⟩ = some (.string ⟨y0.toArray⟩) := by rw [F5.ob.cell]; rfl
   have f5 := F5.ob.free 10
   have F6 := F5.put (o' := ⟨a0, a1, a2, a3, a4, a5, a6, a7, a8, a9, NT, y1, y2, y3, []⟩) 10 (.string ⟨NT.toArray⟩) rfl
   clear kT0
   go_wp2_with fail
   refine (kN1 _ F6.rd F6.be).mono ?_
   rintro e w7 ⟨rfl, hg7, gr7⟩
   have F7 := F6.read hg7 gr7
   have z7 := Nat.le_trans (sz_set z5) gr7.size
   clear kN1 F5 F6 c5 f5 hg5 gr5 z5
   go_wp2_with fail
   refine (kN2 _ F7.rd F7.be).mono ?_
   rintro e w8 ⟨rfl, hg8, gr8⟩
   have F8 := F7.read hg8 gr8
   have z8 := Nat.le_trans z7 gr8.size
   have c8 : w8.cell? ⟨B, 11, none⟩ = some (.int .i64 y1) := by rw [F8.ob.cell]; rfl
   have f8 := F8.ob.free 11
   have c8' : w8.cell? ⟨B, 12, none⟩ = some (.int .i64 y2) := by rw [F8.ob.cell]; rfl
   have f8' := F8.ob.free 12
   have F9 := (F8.put (o' := ⟨a0, a1, a2, a3, a4, a5, a6, a7, a8, a9, NT, SE, y2, y3, []⟩) 11 (.int .i64 SE) rfl).put (o' := ⟨a0, a1, a2, a3, a4, a5, a6, a7, a8, a9, NT, SE, NN, y3, []⟩) 12 (.int .i64 NN) rfl
   clear kN2 F7 hg7 gr7
   go_wp2_with fail
   refine (kT3 _ F9.rd F9.be).mono ?_
   rintro e w10 ⟨rfl, hg10, gr10⟩
   have F10 := F9.read hg10 gr10
   have z10 := Nat.le_trans (sz_set (sz_set z8)) gr10.size
   have c10 : w10.cell? ⟨B, 13, none⟩ = some (.string ⟨y3.toArray⟩) := by rw [F10.ob.cell]; rfl
   have f10 := F10.ob.free 13
   have F11 := F10.put (o' := ⟨a0, a1, a2, a3, a4, a5, a6, a7, a8, a9, NT, SE, NN, TX, []⟩) 13 (.string ⟨TX.toArray⟩) rfl
   clear kT3 F8 F9 c8 f8 c8' f8' hg8 gr8
   go_wp2_with fail
   refine (kN4 _ F11.rd F11.be).mono ?_
   rintro e w12 ⟨rfl, hg12, gr12⟩
   have F12 := F11.read hg12 gr12
   have z12 := Nat.le_trans (sz_set z10) gr12.size
   clear kN4 F10 F11 c10 f10 hg10 gr10 hg12 gr12 z7 z8 z10 z0
   have c12 : w12.cell? ⟨w.heap.size + 1, 2, none⟩ = some (.int .i64 (fQ5 l).2) := by rw [F12.rd.cell]; rfl
   have f12 := F12.rd.free 2
   have e6 : Hid (fQ6 l = if ((fQ5 l).2 == 0 && (decide (fN l < 0) || decide (16 < fN l))) = true then ((fQ5 l).1, 3) else fQ5 l) := by
    rw [Hid, fQ6]; simp only [Bool.and_eq_true, Bool.or_eq_true, beq_iff_eq, decide_eq_true_eq]
   have eS : Hid (fS l = sGo l (fN l).toNat (fQ6 l)) := rfl
   have qok6 : Qok l (fQ6 l) := by unfold fQ6; split <;> exact q5
   have bN : I64b (fN l) := rN_bd _ _
   generalize fQ5 l = Q5 at *
   generalize fQ6 l = Q6 at *
   generalize fN l = N at *
   obtain ⟨qa, qe⟩ := Q5
   dsimp only at c12 e6
   obtain ⟨TB, hTB⟩ : ∃ b, (qe == 0 && (decide (N < 0) || decide (16 < N))) = b := ⟨_, rfl⟩
   rw [hTB] at e6
   have HTB := Lib.hid hTB
   clear hTB q0 q1 q2 q3 q4 q5
   go_upto_region 12 with fail
   go_cut [71] (fun s wx => s = .bool TB ∧ w12 = wx)
   case first =>
    rcases t1 : qe == 0 with _ | _
    ·have e := Lib.hid (show TB = false by rw [← HTB.out, t1]; rfl)
     go_wp2_with fail
     go_meet
     exact ⟨by rw [e.out], rfl⟩
    ·rcases t2 : decide (N < 0) with _ | _
     ·rcases t3 : decide (16 < N) with _ | _
      all_goals
       have e := Lib.hid HTB.out.symm
       rw [t1, t2, t3] at e
       go_wp2_with fail
       go_meet
       exact ⟨by rw [e.out]; rfl, rfl⟩
     ·have e := Lib.hid (show TB = true by rw [← HTB.out, t1, t2]; rfl)
      go_wp2_with fail
      go_meet
      exact ⟨by rw [e.out], rfl⟩
   case rest =>
    obtain ⟨rfl, rfl⟩ := hcut
    go_upto_if 71 with fail
    go_cut [] (fun wx => FS w B A c l ⟨a0, a1, a2, a3, a4, a5, a6, a7, a8, a9, NT, SE, NN, TX, []⟩ none 0 Q6 wx ∧ B + 2 ≤ wx.heap.size)
    case first =>
     rcases TB with _ | _
     ·have e6' : Q6 = (qa, qe) := e6.out
      subst e6'
      go_wp2_with fail
      go_meet
      exact ⟨F12, z12⟩
     ·have e6' : Q6 = (qa, 3) := e6.out
      subst e6'
      go_wp2_with fail
      go_meet
      exact ⟨F12.err 3, sz_set z12⟩
    case rest =>
     clear F12 c12 f12
     have HG : Hid (Q6.2 = 0 → N ≤ 16) := by
      intro hz
      rw [e6.out] at hz
      rcases TB with _ | _
      ·have h1 := HTB.out
       rw [if_neg (by simp)] at hz
       dsimp only at hz
       rw [hz] at h1
       simp only [beq_self_eq_true, Bool.true_and, Bool.or_eq_false_iff, decide_eq_false_iff_not] at h1
       omega
      ·rw [if_pos rfl] at hz; exact absurd (show (3 : Int) = 0 from hz) (by decide)
     clear e6 HTB
     obtain ⟨st0, hst, hy0, hy1, hy2⟩ := info_parts info_st
     obtain ⟨hcut, hzc⟩ := hcut
     clear z12
     go_wp2_with fail
     go_loopw [9] (FromRel2 w B A c l ⟨a0, a1, a2, a3, a4, a5, a6, a7, a8, a9, NT, SE, NN, TX, []⟩ N (fS l)) (fun i _ => N.toNat + 1 - (intOf i).toNat)
     case atStart => exact ⟨0, [], none, 0, Q6, rfl, by omega, rfl, hcut, Own.nil _ _ _ _, by rw [Hid, eS.out]; simp, qok6, HG, hzc⟩
     case round =>
      clear hcut hzc
      obtain ⟨i, acc, Ao, co, q, rfl, hi, ha, F, hown, hS, hq, hG, hzr⟩ := hrel
      have c2 : wr.cell? ⟨w.heap.size + 1, 2, none⟩ = some (.int .i64 q.2) := by rw [F.rd.cell]; rfl
      by_cases hlt : (i : Int) < N ∧ q.2 = 0
      ·obtain ⟨hlt, hq0⟩ := hlt
       have t1 : decide ((i : Int) < N) = true := decide_eq_true hlt
       have t2 : (q.2 == 0) = true := by simpa using hq0
       have hN16 := hG.out hq0
       have hi1 : i + 1 ≤ 16 := by omega
       have hiN : i < N.toNat := by omega
       have hS2 : Hid (fS l = ((acc ++ [(rN l q, rN l (rQ l q))]) ++ (sGo l (N.toNat - (i + 1)) (rQ l (rQ l q))).1, (sGo l (N.toNat - (i + 1)) (rQ l (rQ l q))).2)) := by
        rw [Hid, hS.out, show N.toNat - i = (N.toNat - (i + 1)) + 1 by omega, sGo, if_pos hq0, List.append_assoc]; rfl
       have kS := stampRead_any wr.drew (w.heap.size + 1) A c l q F.rd (h.below F.be.drew) hf hl hq
       have hqq := hq.rQ.rQ
       have c14 : wr.cell? ⟨B, 14, none⟩ = some (.slice Ao acc.length co) := F.opAt.2.2.2.2.2
       clear hS hlt hq0
       generalize rN l (rQ l q) = V2 at *
       generalize rQ l (rQ l q) = Q2 at *
       generalize rN l q = V1 at *
       have hG2 : Hid (Q2.2 = 0 → N ≤ 16) := fun _ => hN16
       go_wp2_with fail
       refine wp_region_noPanic ?_
       refine wp_region_held_drew (S := fun _ => True) (by kernel_rfl) trivial (fun hHeld => ?_)
       refine wpAnyH_take (i := 0) (v := ?_) rfl (by kernel_rfl) (by kernel_rfl) (by kernel_rfl) (fun _ _ _ h => h) (Or.inl ⟨by rfl, ?_⟩) trivial ?_
       rotate_left
       ·intro w' hSw; clear hSw; go_simp; try (with_reducible rfl)
       change wpAnyH _ _ _ _ _ _ _ (Act.put _ (some 87) _) _
       try simp only [Act.put, tkA, tkB, tkC]
       refine wpAnyH_take (i := 2) (v := ?_) rfl (by kernel_rfl) (by kernel_rfl) (by kernel_rfl) (fun _ _ _ h => h) (Or.inl ⟨by rfl, ?_⟩) trivial ?_
       rotate_left
       ·intro w' hSw; clear hSw; go_simp; try (with_reducible rfl)
       change wpAnyH _ _ _ _ _ _ _ (Act.put _ (some 89) _) _
       try simp only [Act.put, tkA, tkB, tkC]
       refine wpAnyH_ready (rs := [1, 3]) (by kernel_rfl) (by simp) ?_
       refine AllReadyH.cons rfl (fun K hK => ?_) (AllReadyH.cons rfl (fun K hK => ?_) AllReadyH.nil)
       ·go_simp
        refine hK.out _ _ trivial (fun hHeld => ?_)
        clear hK K
        refine wpAnyH_ready (rs := [3]) (by kernel_rfl) (by simp) ?_
        refine AllReadyH.cons rfl (fun K hK => ?_) AllReadyH.nil
        go_simp
        refine kS.mono ?_
        rintro e w6 ⟨rfl, hg6, gr6⟩
        have F6 := (F.up (Up.drew wr)).read hg6 gr6
        have o6 := Own.kept (hown.drew) gr6 (Own.farRow hown (by have := F.lt; omega))
        have z6 : B + 2 ≤ w6.heap.size := Nat.le_trans hzr gr6.size
        have d14 : w6.cell? ⟨B, 14, none⟩ = some (.slice Ao acc.length co) := F6.opAt.2.2.2.2.2
        have d14a : (w6.alloc (.cells #[.int .i64 V1, .int .i64 V2] 36)).cell? ⟨B, 14, none⟩ = some (.slice Ao acc.length co) := (F6.up (Up.alloc' w6 (.cells #[.int .i64 V1, .int .i64 V2] 36))).opAt.2.2.2.2.2
        refine hK.out _ _ trivial (fun hHeld => ?_)
        clear hK K
        refine wpAnyH_ready (rs := [4]) (by kernel_rfl) (by simp) ?_
        refine AllReadyH.cons rfl (fun K hK => ?_) AllReadyH.nil
        go_simp
        refine hK.out _ _ trivial (fun hHeld => ?_)
        clear hK K
        refine wpAnyH_ready (rs := [5]) (by kernel_rfl) (by simp) ?_
        refine AllReadyH.cons rfl (fun K hK => ?_) AllReadyH.nil
        rw [if_pos (by rfl)]
        refine wp_append_Own _ (.tmp 88) (.tmp 91) 41 rfl (B + 2) 36 st0 _ 2 16 Tryz.underlying41 hst hy0 hy1 hy2 rfl (by omega) (.slice Ao acc.length co) acc.length (ovL acc) (by go_simp) (o6.alloc _) (some ⟨w6.heap.size, 0, none⟩) 1 1 [.int .i64 V1, .int .i64 V2] rfl rfl (Rd.new _ _ _ _) (by intro u hu; simp at hu; rcases hu with rfl | rfl <;> rfl) (by simp only [maxLen]; omega) (by omega) (by simp; omega) ?_
        intro v9 W9 hown9 gr9 hb9 hat9
        have F9 := (F6.up (Up.alloc' w6 (.cells #[.int .i64 V1, .int .i64 V2] 36))).grown gr9 (fun k hk => by have := (o6.lt k hk).1; omega)
        obtain ⟨A9, c9, hv9, hc9, hr9⟩ := hown9.rd
        subst hv9
        have e14 : W9.cell? ⟨B, 14, none⟩ = some (.slice Ao acc.length co) := F9.opAt.2.2.2.2.2
        have g14 := F9.ob.free 14
        have F10 := F9.putOv (acc' := acc ++ [(V1, V2)]) A9 c9
        refine hK.out _ _ trivial (fun hHeld => ?_)
        clear hK K
        refine wpAnyH_take (i := 6) (v := ?_) rfl (by kernel_rfl) (by kernel_rfl) (by kernel_rfl) (fun _ _ _ h => h) (Or.inl ⟨by rfl, ?_⟩) trivial ?_
        rotate_left
        ·intro w' hSw; clear hSw; go_simp; try (with_reducible rfl)
        change wpAnyH _ _ _ _ _ _ _ (Act.put _ (some 93) _) _
        try simp only [Act.put, tkA, tkB, tkC]
        refine wpAnyH_ready (rs := [7]) (by kernel_rfl) (by simp) ?_
        refine AllReadyH.cons rfl (fun K hK => ?_) AllReadyH.nil
        go_simp
        refine hK.out _ _ trivial (fun hHeld => ?_)
        clear hK K
        refine wpAnyH_done (by kernel_rfl) ?_ _
        refine NoPanic.normal ?_
        clear hHeld
        go_wp2_with fail
        have eL : (acc ++ [(V1, V2)]).length = i + 1 := by rw [List.length_append, ha]; rfl
        rw [eL] at F10
        refine ⟨⟨i + 1, acc ++ [(V1, V2)], A9, c9, Q2, by go_num, hi1, eL, F10, ?_, hS2, hqq, hG2, sz_set (Nat.le_trans z6 (Nat.le_trans (by simp) gr9.size))⟩, by simp [intOf]; omega⟩
        rw [eL, ovL_append]
        have o9 := Own.kept hown9 (grown_set W9 B 14 (.slice A9 (i + 1) c9)) (Own.farRow hown9 (by omega))
        rw [ha] at o9
        exact o9
       ·go_simp
        refine kS.mono ?_
        rintro e w6 ⟨rfl, hg6, gr6⟩
        have F6 := (F.up (Up.drew wr)).read hg6 gr6
        have o6 := Own.kept (hown.drew) gr6 (Own.farRow hown (by have := F.lt; omega))
        have z6 : B + 2 ≤ w6.heap.size := Nat.le_trans hzr gr6.size
        have d14 : w6.cell? ⟨B, 14, none⟩ = some (.slice Ao acc.length co) := F6.opAt.2.2.2.2.2
        have d14a : (w6.alloc (.cells #[.int .i64 V1, .int .i64 V2] 36)).cell? ⟨B, 14, none⟩ = some (.slice Ao acc.length co) := (F6.up (Up.alloc' w6 (.cells #[.int .i64 V1, .int .i64 V2] 36))).opAt.2.2.2.2.2
        refine hK.out _ _ trivial (fun hHeld => ?_)
        clear hK K
        refine wpAnyH_ready (rs := [1, 4]) (by kernel_rfl) (by simp) ?_
        refine AllReadyH.cons rfl (fun K hK => ?_) (AllReadyH.cons rfl (fun K hK => ?_) AllReadyH.nil)
        ·go_simp
         refine hK.out _ _ trivial (fun hHeld => ?_)
         clear hK K
         refine wpAnyH_ready (rs := [4]) (by kernel_rfl) (by simp) ?_
         refine AllReadyH.cons rfl (fun K hK => ?_) AllReadyH.nil
         go_simp
         refine hK.out _ _ trivial (fun hHeld => ?_)
         clear hK K
         refine wpAnyH_ready (rs := [5]) (by kernel_rfl) (by simp) ?_
         refine AllReadyH.cons rfl (fun K hK => ?_) AllReadyH.nil
         rw [if_pos (by rfl)]
         refine wp_append_Own _ (.tmp 88) (.tmp 91) 41 rfl (B + 2) 36 st0 _ 2 16 Tryz.underlying41 hst hy0 hy1 hy2 rfl (by omega) (.slice Ao acc.length co) acc.length (ovL acc) (by go_simp) (o6.alloc _) (some ⟨w6.heap.size, 0, none⟩) 1 1 [.int .i64 V1, .int .i64 V2] rfl rfl (Rd.new _ _ _ _) (by intro u hu; simp at hu; rcases hu with rfl | rfl <;> rfl) (by simp only [maxLen]; omega) (by omega) (by simp; omega) ?_
         intro v9 W9 hown9 gr9 hb9 hat9
         have F9 := (F6.up (Up.alloc' w6 (.cells #[.int .i64 V1, .int .i64 V2] 36))).grown gr9 (fun k hk => by have := (o6.lt k hk).1; omega)
         obtain ⟨A9, c9, hv9, hc9, hr9⟩ := hown9.rd
         subst hv9
         have e14 : W9.cell? ⟨B, 14, none⟩ = some (.slice Ao acc.length co) := F9.opAt.2.2.2.2.2
         have g14 := F9.ob.free 14
         have F10 := F9.putOv (acc' := acc ++ [(V1, V2)]) A9 c9
         refine hK.out _ _ trivial (fun hHeld => ?_)
         clear hK K
         refine wpAnyH_take (i := 6) (v := ?_) rfl (by kernel_rfl) (by kernel_rfl) (by kernel_rfl) (fun _ _ _ h => h) (Or.inl ⟨by rfl, ?_⟩) trivial ?_
         rotate_left
         ·intro w' hSw; clear hSw; go_simp; try (with_reducible rfl)
         change wpAnyH _ _ _ _ _ _ _ (Act.put _ (some 93) _) _
         try simp only [Act.put, tkA, tkB, tkC]
         refine wpAnyH_ready (rs := [7]) (by kernel_rfl) (by simp) ?_
         refine AllReadyH.cons rfl (fun K hK => ?_) AllReadyH.nil
         go_simp
         refine hK.out _ _ trivial (fun hHeld => ?_)
         clear hK K
         refine wpAnyH_done (by kernel_rfl) ?_ _
         refine NoPanic.normal ?_
         clear hHeld
         go_wp2_with fail
         have eL : (acc ++ [(V1, V2)]).length = i + 1 := by rw [List.length_append, ha]; rfl
         rw [eL] at F10
         refine ⟨⟨i + 1, acc ++ [(V1, V2)], A9, c9, Q2, by go_num, hi1, eL, F10, ?_, hS2, hqq, hG2, sz_set (Nat.le_trans z6 (Nat.le_trans (by simp) gr9.size))⟩, by simp [intOf]; omega⟩
         rw [eL, ovL_append]
         have o9 := Own.kept hown9 (grown_set W9 B 14 (.slice A9 (i + 1) c9)) (Own.farRow hown9 (by omega))
         rw [ha] at o9
         exact o9
        ·go_simp
         refine hK.out _ _ trivial (fun hHeld => ?_)
         clear hK K
         refine wpAnyH_ready (rs := [1]) (by kernel_rfl) (by simp) ?_
         refine AllReadyH.cons rfl (fun K hK => ?_) AllReadyH.nil
         go_simp
         refine hK.out _ _ trivial (fun hHeld => ?_)
         clear hK K
         refine wpAnyH_ready (rs := [5]) (by kernel_rfl) (by simp) ?_
         refine AllReadyH.cons rfl (fun K hK => ?_) AllReadyH.nil
         rw [if_pos (by rfl)]
         refine wp_append_Own _ (.tmp 88) (.tmp 91) 41 rfl (B + 2) 36 st0 _ 2 16 Tryz.underlying41 hst hy0 hy1 hy2 rfl (by omega) (.slice Ao acc.length co) acc.length (ovL acc) (by go_simp) (o6.alloc _) (some ⟨w6.heap.size, 0, none⟩) 1 1 [.int .i64 V1, .int .i64 V2] rfl rfl (Rd.new _ _ _ _) (by intro u hu; simp at hu; rcases hu with rfl | rfl <;> rfl) (by simp only [maxLen]; omega) (by omega) (by simp; omega) ?_
         intro v9 W9 hown9 gr9 hb9 hat9
         have F9 := (F6.up (Up.alloc' w6 (.cells #[.int .i64 V1, .int .i64 V2] 36))).grown gr9 (fun k hk => by have := (o6.lt k hk).1; omega)
         obtain ⟨A9, c9, hv9, hc9, hr9⟩ := hown9.rd
         subst hv9
         have e14 : W9.cell? ⟨B, 14, none⟩ = some (.slice Ao acc.length co) := F9.opAt.2.2.2.2.2
         have g14 := F9.ob.free 14
         have F10 := F9.putOv (acc' := acc ++ [(V1, V2)]) A9 c9
         refine hK.out _ _ trivial (fun hHeld => ?_)
         clear hK K
         refine wpAnyH_take (i := 6) (v := ?_) rfl (by kernel_rfl) (by kernel_rfl) (by kernel_rfl) (fun _ _ _ h => h) (Or.inl ⟨by rfl, ?_⟩) trivial ?_
         rotate_left
         ·intro w' hSw; clear hSw; go_simp; try (with_reducible rfl)
         change wpAnyH _ _ _ _ _ _ _ (Act.put _ (some 93) _) _
         try simp only [Act.put, tkA, tkB, tkC]
         refine wpAnyH_ready (rs := [7]) (by kernel_rfl) (by simp) ?_
         refine AllReadyH.cons rfl (fun K hK => ?_) AllReadyH.nil
         go_simp
         refine hK.out _ _ trivial (fun hHeld => ?_)
         clear hK K
         refine wpAnyH_done (by kernel_rfl) ?_ _
         refine NoPanic.normal ?_
         clear hHeld
         go_wp2_with fail
         have eL : (acc ++ [(V1, V2)]).length = i + 1 := by rw [List.length_append, ha]; rfl
         rw [eL] at F10
         refine ⟨⟨i + 1, acc ++ [(V1, V2)], A9, c9, Q2, by go_num, hi1, eL, F10, ?_, hS2, hqq, hG2, sz_set (Nat.le_trans z6 (Nat.le_trans (by simp) gr9.size))⟩, by simp [intOf]; omega⟩
         rw [eL, ovL_append]
         have o9 := Own.kept hown9 (grown_set W9 B 14 (.slice A9 (i + 1) c9)) (Own.farRow hown9 (by omega))
         rw [ha] at o9
         exact o9
      ·subst ha
       have hF : fS l = (acc, q) := by
        rw [hS.out]
        by_cases hq0 : q.2 = 0
        ·have : N.toNat - acc.length = 0 := by omega
         rw [this]; simp [sGo]
        ·rw [sGo_stop hq0]; simp
       have tt : decide ((acc.length : Int) < N) = false ∨ (decide ((acc.length : Int) < N) = true ∧ (q.2 == 0) = false) := by
        by_cases hi' : (acc.length : Int) < N
        ·exact .inr ⟨decide_eq_true hi', beq_eq_false_iff_ne.2 (fun e => hlt ⟨hi', e⟩)⟩
        ·exact .inl (decide_eq_false hi')
       have hE8 : Hid (fQ8 l = if (q.2 == 0 && decide (q.1 < (l.length : Int))) = true then (q.1, 3) else q) := by
        rw [Hid, fQ8, hF]; simp only [Bool.and_eq_true, beq_iff_eq, decide_eq_true_eq]
       have hO : fO l = ⟨a0, a1, a2, a3, a4, a5, a6, a7, a8, a9, NT, SE, NN, TX, acc⟩ := by rw [eO.out, hF]
       have bdO := hBD.out
       rw [hO] at bdO
       have hfE : (fE l = orE (fQ8 l).2 (checkE ⟨a0, a1, a2, a3, a4, a5, a6, a7, a8, a9, NT, SE, NN, TX, acc⟩)) := by rw [fE, hO]
       have hfR : (fR l = if fE l = 0 then ⟨a0, a1, a2, a3, a4, a5, a6, a7, a8, a9, NT, SE, NN, TX, acc⟩ else OP.zero) := by rw [fR, hO]
       clear hF hS hG hlt hO eO eS hBD
       generalize fQ8 l = Q8 at *
       obtain ⟨FE, hFE⟩ : ∃ x, fE l = x := ⟨_, rfl⟩
       rw [hFE] at hfE hfR
       replace hfE := Lib.hid hfE
       replace hfR := Lib.hid hfR
       have HFE := Lib.hid hFE
       clear hFE
       have F : FS w B A c l ⟨a0, a1, a2, a3, a4, a5, a6, a7, a8, a9, NT, SE, NN, TX, acc⟩ Ao co q wr := F
       obtain ⟨qa2, qe2⟩ := q
       dsimp only at c2 tt hE8
       obtain ⟨TB, hTB⟩ : ∃ b, (qe2 == 0 && decide (qa2 < (l.length : Int))) = b := ⟨_, rfl⟩
       rw [hTB] at hE8
       have HTB := Lib.hid hTB
       clear hTB
       have c1 : wr.cell? ⟨w.heap.size + 1, 1, none⟩ = some (.int .i64 qa2) := by rw [F.rd.cell]; rfl
       have f2 := F.rd.free 2
       go_upto_region 15 with fail
       go_cut [84] (fun s wx => s = .bool false ∧ wr = wx)
       case first =>
        rcases tt with t1 | ⟨t1, t2⟩
        all_goals
         go_wp2_with fail
         go_meet
         exact ⟨rfl, rfl⟩
       case rest =>
        obtain ⟨rfl, rfl⟩ := hcut
        clear tt
        go_upto_region 18 with fail
        go_cut [107] (fun s wx => s = .bool TB ∧ wr = wx)
        case first =>
         rcases t1 : qe2 == 0 with _ | _
         ·have e := Lib.hid (show TB = false by rw [← HTB.out, t1]; rfl)
          go_wp2_with fail
          go_meet
          exact ⟨by rw [e.out], rfl⟩
         ·have e := Lib.hid (show TB = decide (qa2 < (l.length : Int)) by rw [← HTB.out, t1]; rfl)
          go_wp2_with fail
          go_meet
          exact ⟨by rw [e.out], rfl⟩
        case rest =>
         obtain ⟨rfl, rfl⟩ := hcut
         clear HTB
         go_upto_if 107 with fail
         go_cut [] (fun wx => FS w B A c l ⟨a0, a1, a2, a3, a4, a5, a6, a7, a8, a9, NT, SE, NN, TX, acc⟩ Ao co Q8 wx ∧ Own wx (B + 2) 36 2 (.slice Ao acc.length co) acc.length (ovL acc))
         case first =>
          rcases TB with _ | _
          ·have e6' : Q8 = (qa2, qe2) := hE8.out
           subst e6'
           go_wp2_with fail
           go_meet
           exact ⟨F, hown⟩
          ·have e6' : Q8 = (qa2, 3) := hE8.out
           subst e6'
           go_wp2_with fail
           go_meet
           exact ⟨F.err 3, Own.kept hown (grown_set wr (w.heap.size + 1) 2 (.int .i64 3)) (Own.farRow hown (by have := F.lt; omega))⟩
         case rest =>
          clear F hown c1 c2 f2 hE8
          obtain ⟨F, hown⟩ := hcut
          obtain ⟨A', c', hv', hcO, hrO⟩ := hown.rd
          injection hv' with e1' _ e3'
          subst e1' e3'
          go_upto_region 20 with fail
          have kC := fun w' (u : Up wc w') => check_any w' ⟨a0, a1, a2, a3, a4, a5, a6, a7, a8, a9, NT, SE, NN, TX, acc⟩ Ao co bdO (u.rd hrO) hcO (hT.below (F.up u).be)
          unfold opV opC at kC
          dsimp only at kC
          have R := fun w' (u : Up wc w') => (F.up u).opAt
          dsimp only [OpAt] at R
          have rE := fun w' (u : Up wc w') => (F.up u).rd.cell 2
          have rE : ∀ w', Up wc w' → w'.cell? ⟨w.heap.size + 1, 2, none⟩ = some (.int .i64 Q8.2) := fun w' u => (rE w' u).trans rfl
          have r0 := fun w' (u : Up wc w') => (R w' u).1.1
          have r1 := fun w' (u : Up wc w') => (R w' u).1.2.1
          have r2 := fun w' (u : Up wc w') => (R w' u).1.2.2.1
          have r3 := fun w' (u : Up wc w') => (R w' u).1.2.2.2
          have r4 := fun w' (u : Up wc w') => (R w' u).2.1.1
          have r5 := fun w' (u : Up wc w') => (R w' u).2.1.2.1
          have r6 := fun w' (u : Up wc w') => (R w' u).2.1.2.2.1
          have r7 := fun w' (u : Up wc w') => (R w' u).2.1.2.2.2.1
          have r8 := fun w' (u : Up wc w') => (R w' u).2.1.2.2.2.2.1
          have r9 := fun w' (u : Up wc w') => (R w' u).2.1.2.2.2.2.2.1
          have r10 := fun w' (u : Up wc w') => (R w' u).2.1.2.2.2.2.2.2
          have r11 := fun w' (u : Up wc w') => (R w' u).2.2.1
          have r12 := fun w' (u : Up wc w') => (R w' u).2.2.2.1
          have r13 := fun w' (u : Up wc w') => (R w' u).2.2.2.2.1
          have r14 := fun w' (u : Up wc w') => (R w' u).2.2.2.2.2
          clear R
          generalize checkE ⟨a0, a1, a2, a3, a4, a5, a6, a7, a8, a9, NT, SE, NN, TX, acc⟩ = CE at *
          go_cut [10] (fun s wx => s = .int .i64 FE ∧ Up wc wx)
          case first =>
           go_region_held3 (fun w' => Up wc w') (first | assumption | exact Up.drew _ | exact Up.refl _ | exact Up.trans (by assumption) (Up.alloc' _ _) | exact Up.trans (by assumption) (Up.of (by assumption))) (first | (go_at_call 40; refine (kC _ (by first | assumption | exact Up.drew _ | exact Up.refl _)).mono ?_; rintro e w2 ⟨rfl, hb2⟩) | (go_at_call 67; refine (first2 _ _ _ _ _ (by first | exact Rd.newAtD _ [I64 _, I64 _] _ _ _ (by simp) | exact Rd.newAt _ [I64 _, I64 _] _ _ _ (by simp))).mono ?_; rintro e w' ⟨rfl, rfl⟩))
           all_goals
            clear r0 r1 r2 r3 r4 r5 r6 r7 r8 r9 r10 r11 r12 r13 r14 rE
            go_wp2_with fail
            go_meet
            exact ⟨by rw [hfE.out], by assumption⟩
          case rest =>
           obtain ⟨rfl, hu⟩ := hcut
           clear kC r0 r1 r2 r3 r4 r5 r6 r7 r8 r9 r10 r11 r12 r13 r14 rE
           rename_i wd
           have F := F.up hu
           have hz := F.rz
           have ho := F.ob
           have hbe := F.be
           have hown := hown.below (B := 0) hu.b
           have hltB := F.lt
           clear hu F hrO
           by_cases hfe : FE = 0
           ·have t1 : (FE != 0) = false := by simpa using hfe
            have hFR := Lib.hid (hfR.out.trans (if_pos hfe))
            have hFE0 : Hid (fE l = 0) := HFE.out.trans hfe
            clear hfR hfe
            go_upto_region 23 with fail
            refine wp_region_lit ?_
            refine wpList_loadRow rfl _ _ rfl B _ _ _ (by go_simp) ho Tryz.underlying43 rfl (by kernel_rfl) ?_
            refine wpList_storeRow rfl _ _ _ rfl w.heap.size _ zero15 (opC ⟨a0, a1, a2, a3, a4, a5, a6, a7, a8, a9, NT, SE, NN, TX, acc⟩ Ao co).toArray (by go_simp) (by go_simp) hz (by kernel_rfl) rfl (opC_one _ _ _) ?_
            intro W hzW gW
            have hbW := hbe.grown gW hbe.size (fun k e => by cases e; omega)
            go_wp2_with fail
            refine bodyPost_ret (results_row (g := w.heap.size) (u := .int .i64 0) rfl (by go_simp) (by go_simp) (load_row hzW Tryz.underlying43 rfl (by kernel_rfl))) rfl ?_
            obtain ⟨A', c', hv', hcO, hrO⟩ := (Own.kept hown gW (Own.farRow hown (by omega))).rd
            injection hv' with e1' _ e3'
            subst e1' e3'
            exact ⟨Ao, co, by rw [hFR.out, hFE0.out]; rfl, by rw [hFR.out]; exact (Own.kept hown gW (Own.farRow hown (by omega))).lower (by omega), hbW⟩
           ·have t1 : (FE != 0) = true := by simpa using hfe
            have hFR := Lib.hid (hfR.out.trans (if_neg hfe))
            clear hfR hfe
            go_upto_region 22 with fail
            refine wp_region_lit ?_
            refine wpList_plain rfl fun K hK => ?_
            go_simp
            refine hK _ _ ?_
            clear hK K
            refine wpList_plain rfl fun K hK => ?_
            go_simp
            refine hK _ _ ?_
            clear hK K
            refine wpList_storeRow rfl _ _ _ rfl w.heap.size _ zero15 (opC OP.zero none 0).toArray (by go_simp) (by go_simp; first | done | rfl) hz (by kernel_rfl) rfl (opC_one _ _ _) ?_
            intro W hzW gW
            have hbW := hbe.grown gW hbe.size (fun k e => by cases e; omega)
            go_wp2_with fail
            refine bodyPost_ret (results_row (g := w.heap.size) (u := .int .i64 FE) rfl (by go_simp) (by go_simp) (load_row hzW Tryz.underlying43 rfl (by kernel_rfl))) rfl ?_
            exact ⟨none, 0, by rw [hFR.out, HFE.out]; rfl, by rw [hFR.out]; exact Own.nil _ _ _ _, hbW⟩
end Go.Proofs.YtcomeidcmcegfaaGreatDoor
namespace Go.Proofs.YtcomeidcmcegfaaGreatDoor
open Go.RowKit
set_option linter.unusedVariables false
set_option linter.unusedSimpArgs false
theorem rQ_stop {l : List UInt8} {q : Int × Int} (h : q.2 ≠ 0) : rQ l q = q := by unfold rQ; rw [if_neg h]
theorem tQ_stop {l : List UInt8} {q : Int × Int} (h : q.2 ≠ 0) : tQ l q = q := by unfold tQ; rw [if_neg h]
def nF (l : List UInt8) : Nat → Int × Int → List Int × (Int × Int)
 | 0, q => ([], q)
 | k + 1, q => (rN l q :: (nF l k (rQ l q)).1, (nF l k (rQ l q)).2)
theorem nF_snoc (l : List UInt8) (k : Nat) (q : Int × Int) : nF l (k + 1) q = ((nF l k q).1 ++ [rN l (nF l k q).2], rQ l (nF l k q).2) := by
 induction k generalizing q with
 | zero => rfl
 | succ k ih => rw [nF, ih (rQ l q)]; rfl
theorem nR_nF (l : List UInt8) (k : Nat) : nR l k = nF l k (0, 0) := by
 induction k with
 | zero => rfl
 | succ k ih => rw [nR, nF_snoc, ih]
theorem nF_stop (l : List UInt8) (k : Nat) {q : Int × Int} (h : q.2 ≠ 0) : (nF l k q).2 = q := by
 induction k with
 | zero => rfl
 | succ k ih => rw [nF, rQ_stop h]; exact ih
theorem nF_rdM (l : List UInt8) (k : Nat) (a : Int) : ((rdM l k a).1 = 0 → nF l k (a, 0) = ((rdM l k a).2.1, ((rdM l k a).2.2, 0))) ∧ ((rdM l k a).1 ≠ 0 → (nF l k (a, 0)).2.2 = (rdM l k a).1) := by
 induction k generalizing a with
 | zero => exact ⟨fun _ => rfl, fun h => absurd rfl h⟩
 | succ k ih =>
  have e1 : rN l (a, 0) = rdN l a := by unfold rN; rw [if_pos rfl]
  have e2 : rQ l (a, 0) = (rdT l a, rdE l a) := by unfold rQ; rw [if_pos rfl]
  rw [nF, e1, e2, rdM]
  by_cases h : rdE l a = 0
  ·rw [if_pos h, h]
   obtain ⟨i1, i2⟩ := ih (rdT l a)
   by_cases h2 : (rdM l k (rdT l a)).1 = 0
   ·rw [if_pos h2, i1 h2]; exact ⟨fun _ => rfl, fun h => absurd rfl h⟩
   ·rw [if_neg h2]; exact ⟨fun h => absurd h h2, fun _ => i2 h2⟩
  ·rw [if_neg h]
   refine ⟨fun h' => absurd h' h, fun _ => ?_⟩
   rw [nF_stop _ _ (show ((rdT l a, rdE l a) : Int × Int).2 ≠ 0 from h)]
def two : List Int → List (Int × Int)
 | a :: b :: l => (a, b) :: two l
 | _ => []
theorem sGo_rdM (l : List UInt8) (n : Nat) (a : Int) : ((rdM l (2 * n) a).1 = 0 → sGo l n (a, 0) = (two (rdM l (2 * n) a).2.1, ((rdM l (2 * n) a).2.2, 0))) ∧ ((rdM l (2 * n) a).1 ≠ 0 → (sGo l n (a, 0)).2.2 = (rdM l (2 * n) a).1) := by
 induction n generalizing a with
 | zero => exact ⟨fun _ => rfl, fun h => absurd rfl h⟩
 | succ n ih =>
  have e1 : rN l (a, 0) = rdN l a := by unfold rN; rw [if_pos rfl]
  have e2 : rQ l (a, 0) = (rdT l a, rdE l a) := by unfold rQ; rw [if_pos rfl]
  rw [sGo, if_pos rfl, e1, e2, show 2 * (n + 1) = 2 * n + 1 + 1 by omega, rdM]
  by_cases h : rdE l a = 0
  ·rw [if_pos h, h, rdM]
   have e3 : rN l (rdT l a, 0) = rdN l (rdT l a) := by unfold rN; rw [if_pos rfl]
   have e4 : rQ l (rdT l a, 0) = (rdT l (rdT l a), rdE l (rdT l a)) := by unfold rQ; rw [if_pos rfl]
   rw [e3, e4]
   by_cases h1 : rdE l (rdT l a) = 0
   ·rw [if_pos h1, h1]
    obtain ⟨i1, i2⟩ := ih (rdT l (rdT l a))
    by_cases h2 : (rdM l (2 * n) (rdT l (rdT l a))).1 = 0
    ·rw [if_pos h2, if_pos rfl, i1 h2]; exact ⟨fun _ => rfl, fun h => absurd rfl h⟩
    ·rw [if_neg h2, if_neg h2]; exact ⟨fun h => absurd h h2, fun _ => i2 h2⟩
   ·rw [if_neg h1, if_neg h1]
    refine ⟨fun h' => absurd h' h1, fun _ => ?_⟩
    show (sGo l n _).2.2 = _
    rw [sGo_stop (show ((rdT l (rdT l a), rdE l (rdT l a)) : Int × Int).2 ≠ 0 from h1)]
  ·rw [if_neg h]
   refine ⟨fun h' => absurd h' h, fun _ => ?_⟩
   rw [rQ_stop (show ((rdT l a, rdE l a) : Int × Int).2 ≠ 0 from h), sGo_stop (show ((rdT l a, rdE l a) : Int × Int).2 ≠ 0 from h)]
theorem txE_cut (l s : List UInt8) (k : Nat) (hs : s.length ≤ 9223372036854775807) (h : k < (encT s).length) : txE (l ++ (encT s).take k) (l.length : Int) = 4 := by
 rcases Nat.lt_or_ge k (enc s.length).length with h1 | h1
 ·have e : (encT s).take k = (enc s.length).take k := by unfold encT; rw [List.take_append_of_le_length (by omega)]
  have h0 := rdE_cut l (s.length : Int) k (by omega) (by omega) h1
  rw [← e] at h0
  have hne : rdE (l ++ (encT s).take k) (l.length : Int) ≠ 0 := by rw [h0]; omega
  have hl := (len_err hne).1
  rw [(tx_err (by rw [hl]; exact hne)).1, hl, h0]
 ·have e : (encT s).take k = enc s.length ++ s.take (k - (enc s.length).length) := by
   unfold encT; rw [List.take_append, List.take_of_length_le (by omega)]
  obtain ⟨h0, h1', h2⟩ := enc_read l (s.length : Int) (s.take (k - (enc s.length).length)) (by omega) (by omega)
  rw [← e] at h0 h1' h2
  obtain ⟨k0, k1, k2⟩ := len_ok h0 (by rw [h1']; omega)
  have hlt : k < (enc s.length).length + s.length := by unfold encT at h; rwa [List.length_append] at h
  refine (tx_short k0 ?_).1
  rw [k1, k2, h1', h2, List.length_append, e, List.length_append, List.length_take]
  omega
def St (l : List UInt8) (q : Int × Int) (pre rest : List UInt8) (k : Nat) : Prop := l = pre ++ rest.take k ∧ q = ((pre.length : Int), 0)
section
variable {l pre rest : List UInt8} {q : Int × Int} {k : Nat}
theorem St.num {n : Int} (h : St l q pre (enc n ++ rest) k) (hn : I64b n) : (k < (enc n).length → (rQ l q).2 = 4) ∧ ((enc n).length ≤ k → St l (rQ l q) (pre ++ enc n) rest (k - (enc n).length) ∧ rN l q = n) := by
 obtain ⟨h1, rfl⟩ := h
 have e1 : rN l ((pre.length : Int), 0) = rdN l pre.length := by unfold rN; rw [if_pos rfl]
 have e2 : rQ l ((pre.length : Int), 0) = (rdT l pre.length, rdE l pre.length) := by unfold rQ; rw [if_pos rfl]
 rw [e1, e2]
 constructor
 ·intro hk
  rw [List.take_append_of_le_length (by omega)] at h1
  show rdE l pre.length = 4
  rw [h1]; exact rdE_cut pre n k hn.1 hn.2 hk
 ·intro hk
  rw [List.take_append, List.take_of_length_le hk] at h1
  obtain ⟨a, b, c⟩ := enc_read pre n (rest.take (k - (enc n).length)) hn.1 hn.2
  rw [← h1] at a b c
  exact ⟨⟨by rw [h1, List.append_assoc], by rw [a, c, List.length_append]⟩, b⟩
theorem St.text {s : List UInt8} (h : St l q pre (encT s ++ rest) k) (hs : s.length ≤ 9223372036854775807) : (k < (encT s).length → (tQ l q).2 = 4) ∧ ((encT s).length ≤ k → St l (tQ l q) (pre ++ encT s) rest (k - (encT s).length) ∧ tN l q = s) := by
 obtain ⟨h1, rfl⟩ := h
 have e1 : tN l ((pre.length : Int), 0) = txS l pre.length := by unfold tN; rw [if_pos rfl]
 have e2 : tQ l ((pre.length : Int), 0) = (txT l pre.length, txE l pre.length) := by unfold tQ; rw [if_pos rfl]
 rw [e1, e2]
 constructor
 ·intro hk
  rw [List.take_append_of_le_length (by omega)] at h1
  show txE l pre.length = 4
  rw [h1]; exact txE_cut pre s k hs hk
 ·intro hk
  rw [List.take_append, List.take_of_length_le hk] at h1
  obtain ⟨a, b, c⟩ := tx_read pre s (rest.take (k - (encT s).length)) hs
  rw [← h1] at a b c
  exact ⟨⟨by rw [h1, List.append_assoc], by rw [a, c]⟩, b⟩
end
theorem St.nums {l : List UInt8} (m : List Int) : ∀ {pre rest : List UInt8} {q : Int × Int} {k : Nat}, St l q pre (m.flatMap enc ++ rest) k → (∀ n ∈ m, I64b n) →
 (k < (m.flatMap enc).length → (nF l m.length q).2.2 = 4) ∧ ((m.flatMap enc).length ≤ k → St l (nF l m.length q).2 (pre ++ m.flatMap enc) rest (k - (m.flatMap enc).length) ∧ (nF l m.length q).1 = m) := by
 induction m with
 | nil =>
  intro pre rest q k h _
  refine ⟨fun hk => absurd hk (by simp), fun _ => ⟨?_, rfl⟩⟩
  simpa [nF] using h
 | cons n m ih =>
  intro pre rest q k h hb
  have e : (n :: m).flatMap enc = enc n ++ m.flatMap enc := rfl
  rw [e, List.append_assoc] at h
  obtain ⟨a1, a2⟩ := h.num (hb n (by simp))
  rw [e, List.length_append, List.length_cons, nF]
  rcases Nat.lt_or_ge k (enc n).length with hk | hk
  ·refine ⟨fun _ => ?_, fun h' => by omega⟩
   have h4 := a1 hk
   show (nF l m.length (rQ l q)).2.2 = 4
   rw [nF_stop l m.length (by rw [h4]; decide), h4]
  ·obtain ⟨b1, b2⟩ := a2 hk
   obtain ⟨c1, c2⟩ := ih b1 (fun x hx => hb x (by simp [hx]))
   refine ⟨fun h' => c1 (by omega), fun h' => ?_⟩
   obtain ⟨d1, d2⟩ := c2 (by omega)
   refine ⟨?_, by rw [b2, d2]⟩
   rw [← List.append_assoc, show k - ((enc n).length + (m.flatMap enc).length) = k - (enc n).length - (m.flatMap enc).length by omega]
   exact d1
theorem St.stamps {l : List UInt8} (m : List (Int × Int)) : ∀ {pre rest : List UInt8} {q : Int × Int} {k : Nat}, St l q pre (ovEnc m ++ rest) k → (∀ p ∈ m, I64b p.1 ∧ I64b p.2) →
 (k < (ovEnc m).length → (sGo l m.length q).2.2 = 4) ∧ ((ovEnc m).length ≤ k → St l (sGo l m.length q).2 (pre ++ ovEnc m) rest (k - (ovEnc m).length) ∧ (sGo l m.length q).1 = m) := by
 induction m with
 | nil =>
  intro pre rest q k h _
  refine ⟨fun hk => absurd hk (by simp [ovEnc]), fun _ => ⟨?_, rfl⟩⟩
  simpa [ovEnc, sGo] using h
 | cons p m ih =>
  intro pre rest q k h hb
  have e : ovEnc (p :: m) = enc p.1 ++ (enc p.2 ++ ovEnc m) := by show (enc p.1 ++ enc p.2) ++ ovEnc m = _; rw [List.append_assoc]
  have hp := hb p (by simp)
  have hq : q.2 = 0 := by rw [h.2]
  rw [e, List.append_assoc, List.append_assoc] at h
  obtain ⟨a1, a2⟩ := h.num hp.1
  rw [e, List.length_append, List.length_append, List.length_cons, sGo, if_pos hq]
  rcases Nat.lt_or_ge k (enc p.1).length with hk | hk
  ·refine ⟨fun _ => ?_, fun h' => by omega⟩
   have h4 := a1 hk
   show (sGo l m.length (rQ l (rQ l q))).2.2 = 4
   have hne : (rQ l q).2 ≠ 0 := by rw [h4]; decide
   rw [rQ_stop hne, sGo_stop hne, h4]
  ·obtain ⟨b1, b2⟩ := a2 hk
   obtain ⟨c1, c2⟩ := b1.num hp.2
   rcases Nat.lt_or_ge (k - (enc p.1).length) (enc p.2).length with hk2 | hk2
   ·refine ⟨fun _ => ?_, fun h' => by omega⟩
    have h4 := c1 hk2
    show (sGo l m.length (rQ l (rQ l q))).2.2 = 4
    have hne : (rQ l (rQ l q)).2 ≠ 0 := by rw [h4]; decide
    rw [sGo_stop hne, h4]
   ·obtain ⟨d1, d2⟩ := c2 hk2
    obtain ⟨f1, f2⟩ := ih d1 (fun x hx => hb x (by simp [hx]))
    refine ⟨fun h' => f1 (by omega), fun h' => ?_⟩
    obtain ⟨g1, g2⟩ := f2 (by omega)
    refine ⟨?_, by rw [b2, d2, g2]⟩
    rw [show pre ++ (enc p.1 ++ (enc p.2 ++ ovEnc m)) = pre ++ enc p.1 ++ enc p.2 ++ ovEnc m by simp only [List.append_assoc],
     show k - ((enc p.1).length + ((enc p.2).length + (ovEnc m).length)) = k - (enc p.1).length - (enc p.2).length - (ovEnc m).length by omega]
    exact g1
theorem fQ_stop0 {l : List UInt8} (h : (fQ0 l).2 ≠ 0) : fQ1 l = fQ0 l := tQ_stop h
theorem fQ_stop1 {l : List UInt8} (h : (fQ1 l).2 ≠ 0) : fQ2 l = fQ1 l := rQ_stop h
theorem fQ_stop2 {l : List UInt8} (h : (fQ2 l).2 ≠ 0) : fQ3 l = fQ2 l := rQ_stop h
theorem fQ_stop3 {l : List UInt8} (h : (fQ3 l).2 ≠ 0) : fQ4 l = fQ3 l := tQ_stop h
theorem fQ_stop4 {l : List UInt8} (h : (fQ4 l).2 ≠ 0) : fQ5 l = fQ4 l := rQ_stop h
theorem fQ_stop5 {l : List UInt8} (h : (fQ5 l).2 ≠ 0) : fQ6 l = fQ5 l := by unfold fQ6; rw [if_neg (fun h' => h h'.1)]
theorem fQ_stop6 {l : List UInt8} (h : (fQ6 l).2 ≠ 0) : (fS l).2 = fQ6 l := by unfold fS; rw [sGo_stop h]
theorem fQ_stop8 {l : List UInt8} (h : (fS l).2.2 ≠ 0) : fQ8 l = (fS l).2 := by unfold fQ8; rw [if_neg (fun h' => h h'.1)]
theorem fE_8 {l : List UInt8} (h : (fS l).2.2 ≠ 0) : fE l = (fS l).2.2 := by unfold fE orE; rw [fQ_stop8 h, if_neg h]
theorem fE_6 {l : List UInt8} (h : (fQ6 l).2 ≠ 0) : fE l = (fQ6 l).2 := by rw [fE_8 (by rw [fQ_stop6 h]; exact h), fQ_stop6 h]
theorem fE_5 {l : List UInt8} (h : (fQ5 l).2 ≠ 0) : fE l = (fQ5 l).2 := by rw [fE_6 (by rw [fQ_stop5 h]; exact h), fQ_stop5 h]
theorem fE_4 {l : List UInt8} (h : (fQ4 l).2 ≠ 0) : fE l = (fQ4 l).2 := by rw [fE_5 (by rw [fQ_stop4 h]; exact h), fQ_stop4 h]
theorem fE_3 {l : List UInt8} (h : (fQ3 l).2 ≠ 0) : fE l = (fQ3 l).2 := by rw [fE_4 (by rw [fQ_stop3 h]; exact h), fQ_stop3 h]
theorem fE_2 {l : List UInt8} (h : (fQ2 l).2 ≠ 0) : fE l = (fQ2 l).2 := by rw [fE_3 (by rw [fQ_stop2 h]; exact h), fQ_stop2 h]
theorem fE_1 {l : List UInt8} (h : (fQ1 l).2 ≠ 0) : fE l = (fQ1 l).2 := by rw [fE_2 (by rw [fQ_stop1 h]; exact h), fQ_stop1 h]
theorem fE_0 {l : List UInt8} (h : (fQ0 l).2 ≠ 0) : fE l = (fQ0 l).2 := by rw [fE_1 (by rw [fQ_stop0 h]; exact h), fQ_stop0 h]
theorem fR_err {l : List UInt8} (h : fE l ≠ 0) : fR l = OP.zero := by unfold fR; rw [if_neg h]
theorem opB_eq (o : OP) : opB o = (ints10 o).flatMap enc ++ (encT o.nt ++ (enc o.se ++ (enc o.nn ++ (encT o.tx ++ (enc o.ov.length ++ ovEnc o.ov))))) := rfl
theorem opOf_ints10 (o : OP) : ({ opOf (ints10 o) with nt := o.nt, se := o.se, nn := o.nn, tx := o.tx, ov := o.ov } : OP) = o := rfl
theorem from_cut (o : OP) (t : List UInt8) (k : Nat) (ho : o.Bd) (h16 : o.ov.length ≤ 16) (l : List UInt8) (hl : l = (opB o ++ t).take k) :
 (k < (opB o).length → fE l = 4) ∧ ((opB o).length ≤ k → fO l = o ∧ (fS l).2 = ((((opB o).length : Nat) : Int), 0)) := by
 have hnt : o.nt.length ≤ 9223372036854775807 := by have := ho.nt; unfold maxLen at this; omega
 have htx : o.tx.length ≤ 9223372036854775807 := by have := ho.tx; unfold maxLen at this; omega
 have hlen : (opB o).length = ((ints10 o).flatMap enc).length + ((encT o.nt).length + ((enc o.se).length + ((enc o.nn).length + ((encT o.tx).length + ((enc o.ov.length).length + (ovEnc o.ov).length))))) := by
  rw [opB_eq]; simp only [List.length_append]
 have e0 : opB o ++ t = (ints10 o).flatMap enc ++ (encT o.nt ++ (enc o.se ++ (enc o.nn ++ (encT o.tx ++ (enc o.ov.length ++ (ovEnc o.ov ++ t)))))) := by rw [opB_eq]; simp only [List.append_assoc]
 have s0 : St l (0, 0) [] ((ints10 o).flatMap enc ++ (encT o.nt ++ (enc o.se ++ (enc o.nn ++ (encT o.tx ++ (enc o.ov.length ++ (ovEnc o.ov ++ t))))))) k := ⟨by rw [hl, e0]; rfl, rfl⟩
 have hq0 : fQ0 l = (nF l (ints10 o).length (0, 0)).2 := by unfold fQ0; rw [nR_nF]; rfl
 have hv0 : (nR l 10).1 = (nF l (ints10 o).length (0, 0)).1 := by rw [nR_nF]; rfl
 obtain ⟨a1, a2⟩ := s0.nums (ints10 o) (ints10_get o ho)
 rw [← hq0, ← hv0] at a2
 rw [← hq0] at a1
 rw [hlen]
 rcases Nat.lt_or_ge k ((ints10 o).flatMap enc).length with hk | hk
 ·exact ⟨fun _ => by rw [fE_0 (by rw [a1 hk]; decide), a1 hk], fun h => by omega⟩
 obtain ⟨s1, v1⟩ := a2 hk
 obtain ⟨a1, a2⟩ := s1.text hnt
 rcases Nat.lt_or_ge (k - ((ints10 o).flatMap enc).length) (encT o.nt).length with hk1 | hk1
 ·have := a1 hk1
  exact ⟨fun _ => by rw [fE_1 (by show (tQ l (fQ0 l)).2 ≠ 0; rw [this]; decide)]; exact this, fun h => by omega⟩
 obtain ⟨s2, v2⟩ := a2 hk1
 obtain ⟨a1, a2⟩ := s2.num ho.se
 rcases Nat.lt_or_ge (k - ((ints10 o).flatMap enc).length - (encT o.nt).length) (enc o.se).length with hk2 | hk2
 ·have := a1 hk2
  exact ⟨fun _ => by rw [fE_2 (by show (rQ l (fQ1 l)).2 ≠ 0; unfold fQ1; rw [this]; decide)]; exact this, fun h => by omega⟩
 obtain ⟨s3, v3⟩ := a2 hk2
 obtain ⟨a1, a2⟩ := s3.num ho.nn
 rcases Nat.lt_or_ge (k - ((ints10 o).flatMap enc).length - (encT o.nt).length - (enc o.se).length) (enc o.nn).length with hk3 | hk3
 ·have := a1 hk3
  exact ⟨fun _ => by rw [fE_3 (by show (rQ l (fQ2 l)).2 ≠ 0; unfold fQ2 fQ1; rw [this]; decide)]; exact this, fun h => by omega⟩
 obtain ⟨s4, v4⟩ := a2 hk3
 obtain ⟨a1, a2⟩ := s4.text htx
 rcases Nat.lt_or_ge (k - ((ints10 o).flatMap enc).length - (encT o.nt).length - (enc o.se).length - (enc o.nn).length) (encT o.tx).length with hk4 | hk4
 ·have := a1 hk4
  exact ⟨fun _ => by rw [fE_4 (by show (tQ l (fQ3 l)).2 ≠ 0; unfold fQ3 fQ2 fQ1; rw [this]; decide)]; exact this, fun h => by omega⟩
 obtain ⟨s5, v5⟩ := a2 hk4
 obtain ⟨a1, a2⟩ := s5.num (n := (o.ov.length : Int)) ⟨by omega, by omega⟩
 rcases Nat.lt_or_ge (k - ((ints10 o).flatMap enc).length - (encT o.nt).length - (enc o.se).length - (enc o.nn).length - (encT o.tx).length) (enc o.ov.length).length with hk5 | hk5
 ·have := a1 hk5
  exact ⟨fun _ => by rw [fE_5 (by show (rQ l (fQ4 l)).2 ≠ 0; unfold fQ4 fQ3 fQ2 fQ1; rw [this]; decide)]; exact this, fun h => by omega⟩
 obtain ⟨s6, v6⟩ := a2 hk5
 have hN : fN l = o.ov.length := v6
 have h6 : fQ6 l = fQ5 l := by unfold fQ6; rw [hN, if_neg (by omega)]
 have s6 := (show St l (fQ5 l) _ _ _ from s6)
 rw [← h6] at s6
 obtain ⟨a1, a2⟩ := s6.stamps o.ov ho.ov
 have hS : fS l = sGo l o.ov.length (fQ6 l) := by unfold fS; rw [hN, Int.toNat_natCast]
 rw [← hS] at a1 a2
 rcases Nat.lt_or_ge (k - ((ints10 o).flatMap enc).length - (encT o.nt).length - (enc o.se).length - (enc o.nn).length - (encT o.tx).length - (enc o.ov.length).length) (ovEnc o.ov).length with hk6 | hk6
 ·have := a1 hk6
  exact ⟨fun _ => by rw [fE_8 (by rw [this]; decide)]; exact this, fun h => by omega⟩
 obtain ⟨s7, v7⟩ := a2 hk6
 refine ⟨fun h => by omega, fun _ => ⟨?_, ?_⟩⟩
 ·have e : fO l = { opOf (nR l 10).1 with nt := tN l (fQ0 l), se := rN l (fQ1 l), nn := rN l (fQ2 l), tx := tN l (fQ3 l), ov := (fS l).1 } := rfl
  have v3' : rN l (fQ1 l) = o.se := v3
  have v4' : rN l (fQ2 l) = o.nn := v4
  have v5' : tN l (fQ3 l) = o.tx := v5
  rw [e, v1, v2, v3', v4', v5', v7]
  exact opOf_ints10 o
 ·rw [s7.2]
  simp only [List.length_append, List.length_nil, Nat.zero_add]
  congr 2
  omega
theorem sGo_ok {l : List UInt8} (k : Nat) : ∀ {q : Int × Int}, Qok l q → Qok l (sGo l k q).2 := by
 induction k with
 | zero => intro q h; exact h
 | succ k ih =>
  intro q h
  rw [sGo]; split
  ·exact ih h.rQ.rQ
  ·exact h
theorem fR_ok {l : List UInt8} (h : fE l = 0) : fR l = fO l := by unfold fR; rw [if_pos h]
end Go.Proofs.YtcomeidcmcegfaaGreatDoor
