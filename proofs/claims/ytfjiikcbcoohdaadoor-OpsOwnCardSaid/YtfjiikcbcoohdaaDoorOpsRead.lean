/-
  The walks of the reader of layer 49: number, text, stamp. Conditions: the bytes read as a list, fewer than a thousand million.
-/
import Derived.Test.YtfjiikcbcoohdaaDoorOpsBytes
import Derived.Test.YtfjiikcbcoohdaaDoorWireLists
namespace Go.Proofs.YtfjiikcbcoohdaaDoor
open Go.RowKit
set_option linter.unusedVariables false

/-- block g holds the cells cs, none frozen -/
def Blk (w : World) (g : Nat) (t : TypeId) (cs : Array Value) : Prop := w.heap[g]? = some (.cells cs t (0, 0))
section
variable {w w' : World} {g : Nat} {t : TypeId} {cs : Array Value}
theorem Blk.lt (h : Blk w g t cs) : g < w.heap.size := (Array.getElem?_eq_some_iff.1 h).1
theorem Blk.cell (h : Blk w g t cs) (i : Nat) : w.cell? ⟨g, i, none⟩ = cs[i]? := cell_of_row w g i cs t (0, 0) h
theorem Blk.free (h : Blk w g t cs) (i : Nat) : w.frozen? ⟨g, i, none⟩ = false := by simp [World.frozen?, show w.heap[g]? = _ from h]
theorem Blk.set (h : Blk w g t cs) (i : Nat) (v : Value) : Blk (w.setCell ⟨g, i, none⟩ v) g t (cs.setIfInBounds i v) := by
  show (w.setCell ⟨g, i, none⟩ v).heap[g]? = _
  simp [World.setCell, Array.getElem?_modify, show w.heap[g]? = _ from h]
theorem Blk.kept {row : Option Nat} (h : Blk w g t cs) (hg : w.grownBy w' row) (hne : some g ≠ row) : Blk w' g t cs := (hg.block g h.lt hne).trans h
theorem Blk.up (h : Blk w g t cs) (u : Up w w') : Blk w' g t cs := (u.b.block g h.lt).trans h
theorem Blk.new (w : World) (t : TypeId) (cs : Array Value) : Blk (w.alloc (.cells cs t)) w.heap.size t cs := heap_alloc_new w _
theorem Blk.drewN (h : Blk w g t cs) (n : Nat) : Blk (w.drewN n) g t cs := h
end
theorem grown_set (w : World) (g i : Nat) (v : Value) : w.grownBy (w.setCell ⟨g, i, none⟩ v) (some g) :=
  ⟨rfl, rfl, rfl, by simp [World.setCell], fun k _ hk => Below.heap_setCell _ _ _ k (fun e => hk (by rw [e]))⟩
theorem grown_drewN (w : World) (n : Nat) (row : Option Nat) : w.grownBy (w.drewN n) row := ⟨rfl, rfl, rfl, Nat.le_refl _, fun _ _ _ => rfl⟩

/-- the reader in block g: its bytes, its index and its error -/
def Rdr (w : World) (g : Nat) (A : Option Addr) (c : Nat) (l : List UInt8) (q : Int × Int) : Prop := Blk w g 60 #[.slice A l.length c, .int .i64 q.1, .int .i64 q.2]
theorem Rdr.cell {w : World} {g : Nat} {A : Option Addr} {c : Nat} {l : List UInt8} {q : Int × Int} (h : Rdr w g A c l q) (i : Nat) : w.cell? ⟨g, i, none⟩ = (#[.slice A l.length c, .int .i64 q.1, .int .i64 q.2] : Array Value)[i]? := Blk.cell h i
theorem Rdr.free {w : World} {g : Nat} {A : Option Addr} {c : Nat} {l : List UInt8} {q : Int × Int} (h : Rdr w g A c l q) (i : Nat) : w.frozen? ⟨g, i, none⟩ = false := Blk.free h i
theorem Rdr.drewN {w : World} {g : Nat} {A : Option Addr} {c : Nat} {l : List UInt8} {q : Int × Int} (h : Rdr w g A c l q) (n : Nat) : Blk (w.drewN n) g 60 #[.slice A l.length c, .int .i64 q.1, .int .i64 q.2] := h
/-- what the reader reads next, and its state behind it -/
def rN (l : List UInt8) (q : Int × Int) : Int := if q.2 = 0 then rdN l q.1 else 0
def rQ (l : List UInt8) (q : Int × Int) : Int × Int := if q.2 = 0 then (rdT l q.1, rdE l q.1) else q
def tN (l : List UInt8) (q : Int × Int) : List UInt8 := if q.2 = 0 then txS l q.1 else []
def tQ (l : List UInt8) (q : Int × Int) : Int × Int := if q.2 = 0 then (txT l q.1, txE l q.1) else q

set_option maxRecDepth 100000 in
set_option maxHeartbeats 4000000 in
theorem numRead_any (w : World) (g : Nat) (A : Option Addr) (c : Nat) (l : List UInt8) (q : Int × Int) (hg : Rdr w g A c l q) (h : Rd w A (l.map U8)) (hl : l.length ≤ 1000000000) (hq : -9223372036854775808 ≤ q.1 ∧ q.1 ≤ 9223372036854775807) :
    Calls Tryd.prog 44 #[.pointer (some ⟨g, 0, none⟩)] w fun e w' => e = .returned (.int .i64 (rN l q)) ∧ Rdr w' g A c l (rQ l q) ∧ w.grownBy w' (some g) := by
  obtain ⟨a, e⟩ := q
  have c0 : w.cell? ⟨g, 0, none⟩ = some (.slice A l.length c) := by rw [hg.cell]; rfl
  have c1 : w.cell? ⟨g, 1, none⟩ = some (.int .i64 a) := by rw [hg.cell]; rfl
  have c2 : w.cell? ⟨g, 2, none⟩ = some (.int .i64 e) := by rw [hg.cell]; rfl
  have f1 := hg.free 1
  have f2 := hg.free 2
  by_cases he : e = 0
  · have q0 : (e != 0) = false := by simpa using he
    have HV := Lib.hid (show rN l (a, e) = rdN l a by unfold rN; exact if_pos he)
    have HQ := Lib.hid (show rQ l (a, e) = (rdT l a, rdE l a) by unfold rQ; exact if_pos he)
    have k : ∀ w', Rd w' A (l.map U8) → Calls Tryd.prog 67 #[.slice A l.length c, .int .i64 a] w' fun en w'' => en = .returned (.tuple #[.int .i64 (rdN l a), .int .i64 (rdT l a), .int .i64 (rdE l a)]) ∧ w'' = w' := fun w' hr => by
      have := int_any w' A c l hr (by omega) a hq.1 hq.2
      exact this.mono fun _ _ h => ⟨h.1, h.2.symm⟩
    clear he
    generalize rdN l a = V at *
    generalize rdT l a = T at *
    generalize rdE l a = E at *
    go_enter Tryd.func44, Tryd.ntmps44
    go_wp2_with fail
    go_quiet ((go_at_call 67; exact Calls.quiet_of_same (k _ (by first | exact h | exact Rd.drew h))))
    go_wp2_with fail
    go_ret
    refine ⟨by rw [HV.out]; rfl, ?_, ?_⟩
    · rw [HQ.out]
      exact ((Rdr.drewN hg _).set 1 _).set 2 _
    · exact ((grown_drewN _ _ _).trans (grown_set _ _ _ _)).trans (grown_set _ _ _ _)
  · have q0 : (e != 0) = true := by simpa using he
    have HV := Lib.hid (show rN l (a, e) = 0 by unfold rN; exact if_neg he)
    have HQ := Lib.hid (show rQ l (a, e) = (a, e) by unfold rQ; exact if_neg he)
    clear he
    go_enter Tryd.func44, Tryd.ntmps44
    go_wp2_with fail
    go_ret
    exact ⟨by rw [HV.out]; rfl, by rw [HQ.out]; exact hg, World.grownBy.refl _ _⟩

set_option maxRecDepth 100000 in
set_option maxHeartbeats 4000000 in
theorem text_read (w : World) (g : Nat) (A : Option Addr) (c : Nat) (l : List UInt8) (q : Int × Int) (hg : Rdr w g A c l q) (h : Rd w A (l.map U8)) (hl : l.length ≤ 1000000000) (hc : l.length ≤ c) (hq : -9223372036854775808 ≤ q.1 ∧ q.1 ≤ 9223372036854775807) :
    Calls Tryd.prog 45 #[.pointer (some ⟨g, 0, none⟩)] w fun e w' => e = .returned (.string ⟨(tN l q).toArray⟩) ∧ Rdr w' g A c l (tQ l q) ∧ w.grownBy w' (some g) := by
  obtain ⟨a, e⟩ := q
  have c0 : w.cell? ⟨g, 0, none⟩ = some (.slice A l.length c) := by rw [hg.cell]; rfl
  have c1 : w.cell? ⟨g, 1, none⟩ = some (.int .i64 a) := by rw [hg.cell]; rfl
  have c2 : w.cell? ⟨g, 2, none⟩ = some (.int .i64 e) := by rw [hg.cell]; rfl
  have f1 := hg.free 1
  have f2 := hg.free 2
  by_cases he : e = 0
  · have q0 : (e != 0) = false := by simpa using he
    have HV := Lib.hid (show tN l (a, e) = txS l a by unfold tN; exact if_pos he)
    have HQ := Lib.hid (show tQ l (a, e) = (txT l a, txE l a) by unfold tQ; exact if_pos he)
    have k : ∀ w', Rd w' A (l.map U8) → Calls Tryd.prog 68 #[.slice A l.length c, .int .i64 a] w' fun en w'' => en = .returned (.tuple #[.string ⟨(txS l a).toArray⟩, .int .i64 (txT l a), .int .i64 (txE l a)]) ∧ w'' = w' := fun w' hr => by
      have := textAt_any w' A c l hc hr (by omega) a hq.1 hq.2
      exact this.mono fun _ _ h => ⟨h.1, h.2.symm⟩
    clear he
    generalize txS l a = V at *
    generalize txT l a = T at *
    generalize txE l a = E at *
    go_enter Tryd.func45, Tryd.ntmps45
    go_wp2_with fail
    go_quiet ((go_at_call 68; exact Calls.quiet_of_same (k _ (by first | exact h | exact Rd.drew h))))
    go_wp2_with fail
    go_ret
    refine ⟨by rw [HV.out]; rfl, ?_, ?_⟩
    · rw [HQ.out]
      exact ((Rdr.drewN hg _).set 1 _).set 2 _
    · exact ((grown_drewN _ _ _).trans (grown_set _ _ _ _)).trans (grown_set _ _ _ _)
  · have q0 : (e != 0) = true := by simpa using he
    have HV := Lib.hid (show tN l (a, e) = [] by unfold tN; exact if_neg he)
    have HQ := Lib.hid (show tQ l (a, e) = (a, e) by unfold tQ; exact if_neg he)
    clear he
    go_enter Tryd.func45, Tryd.ntmps45
    go_wp2_with fail
    go_ret
    exact ⟨by rw [HV.out]; rfl, by rw [HQ.out]; exact hg, World.grownBy.refl _ _⟩

theorem rdT_bd (l : List UInt8) (a : Int) : 0 ≤ rdT l a ∧ rdT l a ≤ l.length := by
  by_cases h : rdE l a = 0
  · have h1 := read_bound h
    have := (rdE_ok h).1
    omega
  · rw [rdT_err h]; omega
theorem rdN_bd (l : List UInt8) (a : Int) : I64b (rdN l a) := by
  by_cases h : rdE l a = 0
  · have h1 := read_bound h
    exact ⟨h1.1, h1.2.1⟩
  · rw [rdN_err h]; exact ⟨by omega, by omega⟩
theorem txT_bd (l : List UInt8) (a : Int) : 0 ≤ txT l a ∧ txT l a ≤ l.length := by
  by_cases h : txE l a = 0
  · have := tx_enc h
    exact ⟨this.2.1, this.2.2.1⟩
  · unfold txT; rw [if_neg h]; omega
theorem txS_bd (l : List UInt8) (a : Int) : (txS l a).length ≤ l.length := by
  by_cases h : txE l a = 0
  · have := tx_enc h
    exact this.2.2.2
  · unfold txS; rw [if_neg h]; simp
/-- a state of the reader: the index is within the bytes -/
def Qok (l : List UInt8) (q : Int × Int) : Prop := 0 ≤ q.1 ∧ q.1 ≤ l.length
theorem Qok.rQ {l : List UInt8} {q : Int × Int} (h : Qok l q) : Qok l (rQ l q) := by
  unfold Go.Proofs.YtfjiikcbcoohdaaDoor.rQ; split
  · exact rdT_bd l q.1
  · exact h
theorem Qok.tQ {l : List UInt8} {q : Int × Int} (h : Qok l q) : Qok l (tQ l q) := by
  unfold Go.Proofs.YtfjiikcbcoohdaaDoor.tQ; split
  · exact txT_bd l q.1
  · exact h
theorem rN_bd (l : List UInt8) (q : Int × Int) : I64b (rN l q) := by
  unfold rN; split
  · exact rdN_bd l q.1
  · exact ⟨by omega, by omega⟩
theorem tN_bd (l : List UInt8) (q : Int × Int) : (tN l q).length ≤ l.length := by
  unfold tN; split
  · exact txS_bd l q.1
  · simp

/-- the memory that A reads is not block g -/
def Far (A : Option Addr) (l : List Value) (g : Nat) : Prop := l ≠ [] → ∀ b off, A = some ⟨b, off, none⟩ → b ≠ g
theorem Rd.far {w w' : World} {A : Option Addr} {l : List Value} {g : Nat} (h : Rd w A l) (hg : w.grownBy w' (some g)) (hf : Far A l g) : Rd w' A l := by
  intro hl
  obtain ⟨b, off, e, hb, hc⟩ := h hl
  refine ⟨b, off, e, Nat.lt_of_lt_of_le hb hg.size, fun j u hu => hg.cell (hc j u hu) ?_⟩
  intro e'
  exact hf hl b off e (by simpa using e')
theorem Far.of {w : World} {A : Option Addr} {l : List Value} {g : Nat} (h : Rd w A l) (hg : w.heap.size ≤ g) : Far A l g := by
  intro hl b off e
  obtain ⟨b', off', e', hb, _⟩ := h hl
  rw [e] at e'
  injection e' with e'
  injection e' with e1 e2
  omega
theorem Qok.bd {l : List UInt8} {q : Int × Int} (h : Qok l q) (hl : l.length ≤ 1000000000) : -9223372036854775808 ≤ q.1 ∧ q.1 ≤ 9223372036854775807 := by
  have := h.1; have := h.2; omega

set_option maxRecDepth 100000 in
set_option maxHeartbeats 4000000 in
theorem stampRead_any (w : World) (g : Nat) (A : Option Addr) (c : Nat) (l : List UInt8) (q : Int × Int) (hg : Rdr w g A c l q) (h : Rd w A (l.map U8)) (hf : Far A (l.map U8) g) (hl : l.length ≤ 1000000000) (hq : Qok l q) :
    Calls Tryd.prog 43 #[.pointer (some ⟨g, 0, none⟩)] w fun e w' => e = .returned (.agg #[.int .i64 (rN l q), .int .i64 (rN l (rQ l q))]) ∧ Rdr w' g A c l (rQ l (rQ l q)) ∧ w.grownBy w' (some g) := by
  have ga := World.grownBy_alloc w (.cells #[.int .i64 0, .int .i64 0] 23) (some g)
  have hg1 : Rdr (w.alloc (.cells #[.int .i64 0, .int .i64 0] 23)) g A c l q := Blk.kept hg (World.grownBy_alloc w _ none) (by simp)
  have h1 := h.far ga hf
  have hR := Blk.new w 23 #[.int .i64 0, .int .i64 0]
  have hne : some w.heap.size ≠ some g := by have := Blk.lt hg; simp; omega
  have k1 := fun w' (a : Rdr w' g A c l q) (b : Rd w' A (l.map U8)) => numRead_any w' g A c l q a b hl (hq.bd hl)
  have k2 := fun w' (a : Rdr w' g A c l (rQ l q)) (b : Rd w' A (l.map U8)) => numRead_any w' g A c l (rQ l q) a b hl (hq.rQ.bd hl)
  clear hq
  generalize rN l (rQ l q) = V2 at *
  generalize rQ l (rQ l q) = Q2 at *
  generalize rN l q = V1 at *
  generalize rQ l q = Q1 at *
  go_enter Tryd.func43, Tryd.ntmps43
  go_wp2_with fail
  refine (k1 _ hg1 h1).mono ?_
  rintro e w2 ⟨rfl, hg2, gr2⟩
  have h2 := h1.far gr2 hf
  have hR2 := hR.kept gr2 hne
  clear k1 hg1 h1
  go_wp2_with fail
  refine (k2 _ hg2 h2).mono ?_
  rintro e w3 ⟨rfl, hg3, gr3⟩
  have hR3 := hR2.kept gr3 hne
  have c0 : w3.cell? ⟨w.heap.size, 0, none⟩ = some (.int .i64 0) := by rw [hR3.cell]; rfl
  have c1 : w3.cell? ⟨w.heap.size, 1, none⟩ = some (.int .i64 0) := by rw [hR3.cell]; rfl
  have f0 := hR3.free 0
  have f1 := hR3.free 1
  clear k2 hR hR2
  go_wp2_with fail
  refine bodyPost_ret (v := .agg #[.int .i64 V1, .int .i64 V2]) (by simp [results, Tryd.results43, go_sem, c0, c1]) rfl ⟨rfl, ?_, ?_⟩
  · exact Blk.kept (Blk.kept hg3 (grown_set _ w.heap.size 0 (.int .i64 V1)) hne.symm) (grown_set _ w.heap.size 1 (.int .i64 V2)) hne.symm
  · have gg := (ga.trans gr2).trans gr3
    refine ⟨gg.os, gg.tape, gg.output, ?_, fun k hk hkg => ?_⟩
    · simpa [World.setCell] using gg.size
    · rw [← gg.block k hk hkg]
      exact (Below.heap_setCell _ _ _ k (by simp; omega)).trans (Below.heap_setCell _ _ _ k (by simp; omega))
end Go.Proofs.YtfjiikcbcoohdaaDoor
