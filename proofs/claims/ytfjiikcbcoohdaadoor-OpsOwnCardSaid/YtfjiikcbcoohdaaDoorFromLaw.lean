/-
  What From of layer 49 computes on the bytes of an operation, cut anywhere or with more bytes behind them, and what bytes it accepts. Conditions: the numbers are int's; no program in sight.
-/
import Derived.Test.YtfjiikcbcoohdaaDoorFromPlain
namespace Go.Proofs.YtfjiikcbcoohdaaDoor
open Go.RowKit
set_option linter.unusedVariables false
set_option linter.unusedSimpArgs false

theorem rQ_stop {l : List UInt8} {q : Int × Int} (h : q.2 ≠ 0) : rQ l q = q := by unfold rQ; rw [if_neg h]
theorem tQ_stop {l : List UInt8} {q : Int × Int} (h : q.2 ≠ 0) : tQ l q = q := by unfold tQ; rw [if_neg h]
theorem rN_stop {l : List UInt8} {q : Int × Int} (h : q.2 ≠ 0) : rN l q = 0 := by unfold rN; rw [if_neg h]
/-- k numbers from a state on -/
def nF (l : List UInt8) : Nat → Int × Int → List Int × (Int × Int)
  | 0, q => ([], q)
  | k + 1, q => (rN l q :: (nF l k (rQ l q)).1, (nF l k (rQ l q)).2)
theorem nF_snoc (l : List UInt8) (k : Nat) (q : Int × Int) : nF l (k + 1) q = ((nF l k q).1 ++ [rN l (nF l k q).2], rQ l (nF l k q).2) := by
  induction k generalizing q with
  | zero => rfl
  | succ k ih => rw [nF, ih (rQ l q)]; rfl
theorem nR_nF (l : List UInt8) (k : Nat) : nR l k = nF l k (0, 0) := by
  induction k with
  | zero => rfl
  | succ k ih => rw [nR, nF_snoc, ih]
theorem nF_stop (l : List UInt8) (k : Nat) {q : Int × Int} (h : q.2 ≠ 0) : (nF l k q).2 = q := by
  induction k with
  | zero => rfl
  | succ k ih => rw [nF, rQ_stop h]; exact ih
/-- takes reads as the reader does -/
theorem nF_rdM (l : List UInt8) (k : Nat) (a : Int) : ((rdM l k a).1 = 0 → nF l k (a, 0) = ((rdM l k a).2.1, ((rdM l k a).2.2, 0))) ∧ ((rdM l k a).1 ≠ 0 → (nF l k (a, 0)).2.2 = (rdM l k a).1) := by
  induction k generalizing a with
  | zero => exact ⟨fun _ => rfl, fun h => absurd rfl h⟩
  | succ k ih =>
    have e1 : rN l (a, 0) = rdN l a := by unfold rN; rw [if_pos rfl]
    have e2 : rQ l (a, 0) = (rdT l a, rdE l a) := by unfold rQ; rw [if_pos rfl]
    rw [nF, e1, e2, rdM]
    by_cases h : rdE l a = 0
    · rw [if_pos h, h]
      obtain ⟨i1, i2⟩ := ih (rdT l a)
      by_cases h2 : (rdM l k (rdT l a)).1 = 0
      · rw [if_pos h2, i1 h2]; exact ⟨fun _ => rfl, fun h => absurd rfl h⟩
      · rw [if_neg h2]; exact ⟨fun h => absurd h h2, fun _ => i2 h2⟩
    · rw [if_neg h]
      refine ⟨fun h' => absurd h' h, fun _ => ?_⟩
      rw [nF_stop _ _ (show ((rdT l a, rdE l a) : Int × Int).2 ≠ 0 from h)]
/-- the numbers two by two -/
def two : List Int → List (Int × Int)
  | a :: b :: l => (a, b) :: two l
  | _ => []
theorem sGo_rdM (l : List UInt8) (n : Nat) (a : Int) : ((rdM l (2 * n) a).1 = 0 → sGo l n (a, 0) = (two (rdM l (2 * n) a).2.1, ((rdM l (2 * n) a).2.2, 0))) ∧ ((rdM l (2 * n) a).1 ≠ 0 → (sGo l n (a, 0)).2.2 = (rdM l (2 * n) a).1) := by
  induction n generalizing a with
  | zero => exact ⟨fun _ => rfl, fun h => absurd rfl h⟩
  | succ n ih =>
    have e1 : rN l (a, 0) = rdN l a := by unfold rN; rw [if_pos rfl]
    have e2 : rQ l (a, 0) = (rdT l a, rdE l a) := by unfold rQ; rw [if_pos rfl]
    rw [sGo, if_pos rfl, e1, e2, show 2 * (n + 1) = 2 * n + 1 + 1 by omega, rdM]
    by_cases h : rdE l a = 0
    · rw [if_pos h, h, rdM]
      have e3 : rN l (rdT l a, 0) = rdN l (rdT l a) := by unfold rN; rw [if_pos rfl]
      have e4 : rQ l (rdT l a, 0) = (rdT l (rdT l a), rdE l (rdT l a)) := by unfold rQ; rw [if_pos rfl]
      rw [e3, e4]
      by_cases h1 : rdE l (rdT l a) = 0
      · rw [if_pos h1, h1]
        obtain ⟨i1, i2⟩ := ih (rdT l (rdT l a))
        by_cases h2 : (rdM l (2 * n) (rdT l (rdT l a))).1 = 0
        · rw [if_pos h2, if_pos rfl, i1 h2]; exact ⟨fun _ => rfl, fun h => absurd rfl h⟩
        · rw [if_neg h2, if_neg h2]; exact ⟨fun h => absurd h h2, fun _ => i2 h2⟩
      · rw [if_neg h1, if_neg h1]
        refine ⟨fun h' => absurd h' h1, fun _ => ?_⟩
        show (sGo l n _).2.2 = _
        rw [sGo_stop (show ((rdT l (rdT l a), rdE l (rdT l a)) : Int × Int).2 ≠ 0 from h1)]
    · rw [if_neg h]
      refine ⟨fun h' => absurd h' h, fun _ => ?_⟩
      rw [rQ_stop (show ((rdT l a, rdE l a) : Int × Int).2 ≠ 0 from h), sGo_stop (show ((rdT l a, rdE l a) : Int × Int).2 ≠ 0 from h)]

theorem txE_cut (l s : List UInt8) (k : Nat) (hs : s.length ≤ 9223372036854775807) (h : k < (encT s).length) : txE (l ++ (encT s).take k) (l.length : Int) = 4 := by
  rcases Nat.lt_or_ge k (enc s.length).length with h1 | h1
  · have e : (encT s).take k = (enc s.length).take k := by unfold encT; rw [List.take_append_of_le_length (by omega)]
    have h0 := rdE_cut l (s.length : Int) k (by omega) (by omega) h1
    rw [← e] at h0
    have hne : rdE (l ++ (encT s).take k) (l.length : Int) ≠ 0 := by rw [h0]; omega
    have hl := (len_err hne).1
    rw [(tx_err (by rw [hl]; exact hne)).1, hl, h0]
  · have e : (encT s).take k = enc s.length ++ s.take (k - (enc s.length).length) := by
      unfold encT; rw [List.take_append, List.take_of_length_le (by omega)]
    obtain ⟨h0, h1', h2⟩ := enc_read l (s.length : Int) (s.take (k - (enc s.length).length)) (by omega) (by omega)
    rw [← e] at h0 h1' h2
    obtain ⟨k0, k1, k2⟩ := len_ok h0 (by rw [h1']; omega)
    have hlt : k < (enc s.length).length + s.length := by unfold encT at h; rwa [List.length_append] at h
    refine (tx_short k0 ?_).1
    rw [k1, k2, h1', h2, List.length_append, e, List.length_append, List.length_take]
    omega
/-- the reader stands behind pre, before k bytes of rest -/
def St (l : List UInt8) (q : Int × Int) (pre rest : List UInt8) (k : Nat) : Prop := l = pre ++ rest.take k ∧ q = ((pre.length : Int), 0)
section
variable {l pre rest : List UInt8} {q : Int × Int} {k : Nat}
theorem St.num {n : Int} (h : St l q pre (enc n ++ rest) k) (hn : I64b n) : (k < (enc n).length → (rQ l q).2 = 4) ∧ ((enc n).length ≤ k → St l (rQ l q) (pre ++ enc n) rest (k - (enc n).length) ∧ rN l q = n) := by
  obtain ⟨h1, rfl⟩ := h
  have e1 : rN l ((pre.length : Int), 0) = rdN l pre.length := by unfold rN; rw [if_pos rfl]
  have e2 : rQ l ((pre.length : Int), 0) = (rdT l pre.length, rdE l pre.length) := by unfold rQ; rw [if_pos rfl]
  rw [e1, e2]
  constructor
  · intro hk
    rw [List.take_append_of_le_length (by omega)] at h1
    show rdE l pre.length = 4
    rw [h1]; exact rdE_cut pre n k hn.1 hn.2 hk
  · intro hk
    rw [List.take_append, List.take_of_length_le hk] at h1
    obtain ⟨a, b, c⟩ := enc_read pre n (rest.take (k - (enc n).length)) hn.1 hn.2
    rw [← h1] at a b c
    exact ⟨⟨by rw [h1, List.append_assoc], by rw [a, c, List.length_append]⟩, b⟩
theorem St.text {s : List UInt8} (h : St l q pre (encT s ++ rest) k) (hs : s.length ≤ 9223372036854775807) : (k < (encT s).length → (tQ l q).2 = 4) ∧ ((encT s).length ≤ k → St l (tQ l q) (pre ++ encT s) rest (k - (encT s).length) ∧ tN l q = s) := by
  obtain ⟨h1, rfl⟩ := h
  have e1 : tN l ((pre.length : Int), 0) = txS l pre.length := by unfold tN; rw [if_pos rfl]
  have e2 : tQ l ((pre.length : Int), 0) = (txT l pre.length, txE l pre.length) := by unfold tQ; rw [if_pos rfl]
  rw [e1, e2]
  constructor
  · intro hk
    rw [List.take_append_of_le_length (by omega)] at h1
    show txE l pre.length = 4
    rw [h1]; exact txE_cut pre s k hs hk
  · intro hk
    rw [List.take_append, List.take_of_length_le hk] at h1
    obtain ⟨a, b, c⟩ := tx_read pre s (rest.take (k - (encT s).length)) hs
    rw [← h1] at a b c
    exact ⟨⟨by rw [h1, List.append_assoc], by rw [a, c]⟩, b⟩
end

theorem St.nums {l : List UInt8} (m : List Int) : ∀ {pre rest : List UInt8} {q : Int × Int} {k : Nat}, St l q pre (m.flatMap enc ++ rest) k → (∀ n ∈ m, I64b n) →
    (k < (m.flatMap enc).length → (nF l m.length q).2.2 = 4) ∧ ((m.flatMap enc).length ≤ k → St l (nF l m.length q).2 (pre ++ m.flatMap enc) rest (k - (m.flatMap enc).length) ∧ (nF l m.length q).1 = m) := by
  induction m with
  | nil =>
    intro pre rest q k h _
    refine ⟨fun hk => absurd hk (by simp), fun _ => ⟨?_, rfl⟩⟩
    simpa [nF] using h
  | cons n m ih =>
    intro pre rest q k h hb
    have e : (n :: m).flatMap enc = enc n ++ m.flatMap enc := rfl
    rw [e, List.append_assoc] at h
    obtain ⟨a1, a2⟩ := h.num (hb n (by simp))
    rw [e, List.length_append, List.length_cons, nF]
    rcases Nat.lt_or_ge k (enc n).length with hk | hk
    · refine ⟨fun _ => ?_, fun h' => by omega⟩
      have h4 := a1 hk
      show (nF l m.length (rQ l q)).2.2 = 4
      rw [nF_stop l m.length (by rw [h4]; decide), h4]
    · obtain ⟨b1, b2⟩ := a2 hk
      obtain ⟨c1, c2⟩ := ih b1 (fun x hx => hb x (by simp [hx]))
      refine ⟨fun h' => c1 (by omega), fun h' => ?_⟩
      obtain ⟨d1, d2⟩ := c2 (by omega)
      refine ⟨?_, by rw [b2, d2]⟩
      rw [← List.append_assoc, show k - ((enc n).length + (m.flatMap enc).length) = k - (enc n).length - (m.flatMap enc).length by omega]
      exact d1
theorem St.stamps {l : List UInt8} (m : List (Int × Int)) : ∀ {pre rest : List UInt8} {q : Int × Int} {k : Nat}, St l q pre (ovEnc m ++ rest) k → (∀ p ∈ m, I64b p.1 ∧ I64b p.2) →
    (k < (ovEnc m).length → (sGo l m.length q).2.2 = 4) ∧ ((ovEnc m).length ≤ k → St l (sGo l m.length q).2 (pre ++ ovEnc m) rest (k - (ovEnc m).length) ∧ (sGo l m.length q).1 = m) := by
  induction m with
  | nil =>
    intro pre rest q k h _
    refine ⟨fun hk => absurd hk (by simp [ovEnc]), fun _ => ⟨?_, rfl⟩⟩
    simpa [ovEnc, sGo] using h
  | cons p m ih =>
    intro pre rest q k h hb
    have e : ovEnc (p :: m) = enc p.1 ++ (enc p.2 ++ ovEnc m) := by show (enc p.1 ++ enc p.2) ++ ovEnc m = _; rw [List.append_assoc]
    have hp := hb p (by simp)
    have hq : q.2 = 0 := by rw [h.2]
    rw [e, List.append_assoc, List.append_assoc] at h
    obtain ⟨a1, a2⟩ := h.num hp.1
    rw [e, List.length_append, List.length_append, List.length_cons, sGo, if_pos hq]
    rcases Nat.lt_or_ge k (enc p.1).length with hk | hk
    · refine ⟨fun _ => ?_, fun h' => by omega⟩
      have h4 := a1 hk
      show (sGo l m.length (rQ l (rQ l q))).2.2 = 4
      have hne : (rQ l q).2 ≠ 0 := by rw [h4]; decide
      rw [rQ_stop hne, sGo_stop hne, h4]
    · obtain ⟨b1, b2⟩ := a2 hk
      obtain ⟨c1, c2⟩ := b1.num hp.2
      rcases Nat.lt_or_ge (k - (enc p.1).length) (enc p.2).length with hk2 | hk2
      · refine ⟨fun _ => ?_, fun h' => by omega⟩
        have h4 := c1 hk2
        show (sGo l m.length (rQ l (rQ l q))).2.2 = 4
        have hne : (rQ l (rQ l q)).2 ≠ 0 := by rw [h4]; decide
        rw [sGo_stop hne, h4]
      · obtain ⟨d1, d2⟩ := c2 hk2
        obtain ⟨f1, f2⟩ := ih d1 (fun x hx => hb x (by simp [hx]))
        refine ⟨fun h' => f1 (by omega), fun h' => ?_⟩
        obtain ⟨g1, g2⟩ := f2 (by omega)
        refine ⟨?_, by rw [b2, d2, g2]⟩
        rw [show pre ++ (enc p.1 ++ (enc p.2 ++ ovEnc m)) = pre ++ enc p.1 ++ enc p.2 ++ ovEnc m by simp only [List.append_assoc],
          show k - ((enc p.1).length + ((enc p.2).length + (ovEnc m).length)) = k - (enc p.1).length - (enc p.2).length - (ovEnc m).length by omega]
        exact g1

theorem fQ_stop0 {l : List UInt8} (h : (fQ0 l).2 ≠ 0) : fQ1 l = fQ0 l := tQ_stop h
theorem fQ_stop1 {l : List UInt8} (h : (fQ1 l).2 ≠ 0) : fQ2 l = fQ1 l := rQ_stop h
theorem fQ_stop2 {l : List UInt8} (h : (fQ2 l).2 ≠ 0) : fQ3 l = fQ2 l := rQ_stop h
theorem fQ_stop3 {l : List UInt8} (h : (fQ3 l).2 ≠ 0) : fQ4 l = fQ3 l := tQ_stop h
theorem fQ_stop4 {l : List UInt8} (h : (fQ4 l).2 ≠ 0) : fQ5 l = fQ4 l := rQ_stop h
theorem fQ_stop5 {l : List UInt8} (h : (fQ5 l).2 ≠ 0) : fQ6 l = fQ5 l := by unfold fQ6; rw [if_neg (fun h' => h h'.1)]
theorem fQ_stop6 {l : List UInt8} (h : (fQ6 l).2 ≠ 0) : (fS l).2 = fQ6 l := by unfold fS; rw [sGo_stop h]
theorem fQ_stop8 {l : List UInt8} (h : (fS l).2.2 ≠ 0) : fQ8 l = (fS l).2 := by unfold fQ8; rw [if_neg (fun h' => h h'.1)]
/-- an error ends the reading -/
theorem fE_8 {l : List UInt8} (h : (fS l).2.2 ≠ 0) : fE l = (fS l).2.2 := by unfold fE orE; rw [fQ_stop8 h, if_neg h]
theorem fE_6 {l : List UInt8} (h : (fQ6 l).2 ≠ 0) : fE l = (fQ6 l).2 := by rw [fE_8 (by rw [fQ_stop6 h]; exact h), fQ_stop6 h]
theorem fE_5 {l : List UInt8} (h : (fQ5 l).2 ≠ 0) : fE l = (fQ5 l).2 := by rw [fE_6 (by rw [fQ_stop5 h]; exact h), fQ_stop5 h]
theorem fE_4 {l : List UInt8} (h : (fQ4 l).2 ≠ 0) : fE l = (fQ4 l).2 := by rw [fE_5 (by rw [fQ_stop4 h]; exact h), fQ_stop4 h]
theorem fE_3 {l : List UInt8} (h : (fQ3 l).2 ≠ 0) : fE l = (fQ3 l).2 := by rw [fE_4 (by rw [fQ_stop3 h]; exact h), fQ_stop3 h]
theorem fE_2 {l : List UInt8} (h : (fQ2 l).2 ≠ 0) : fE l = (fQ2 l).2 := by rw [fE_3 (by rw [fQ_stop2 h]; exact h), fQ_stop2 h]
theorem fE_1 {l : List UInt8} (h : (fQ1 l).2 ≠ 0) : fE l = (fQ1 l).2 := by rw [fE_2 (by rw [fQ_stop1 h]; exact h), fQ_stop1 h]
theorem fE_0 {l : List UInt8} (h : (fQ0 l).2 ≠ 0) : fE l = (fQ0 l).2 := by rw [fE_1 (by rw [fQ_stop0 h]; exact h), fQ_stop0 h]
theorem fR_err {l : List UInt8} (h : fE l ≠ 0) : fR l = OP.zero := by unfold fR; rw [if_neg h]

theorem opB_eq (o : OP) : opB o = (ints10 o).flatMap enc ++ (encT o.nt ++ (enc o.se ++ (enc o.nn ++ (encT o.tx ++ (enc o.ov.length ++ ovEnc o.ov))))) := rfl
theorem opOf_ints10 (o : OP) : ({ opOf (ints10 o) with nt := o.nt, se := o.se, nn := o.nn, tx := o.tx, ov := o.ov } : OP) = o := rfl
/-- From of the first k bytes of an operation's bytes and of t behind them -/
theorem from_cut (o : OP) (t : List UInt8) (k : Nat) (ho : o.Bd) (h16 : o.ov.length ≤ 16) (l : List UInt8) (hl : l = (opB o ++ t).take k) :
    (k < (opB o).length → fE l = 4) ∧ ((opB o).length ≤ k → fO l = o ∧ (fS l).2 = ((((opB o).length : Nat) : Int), 0)) := by
  have hnt : o.nt.length ≤ 9223372036854775807 := by have := ho.nt; unfold maxLen at this; omega
  have htx : o.tx.length ≤ 9223372036854775807 := by have := ho.tx; unfold maxLen at this; omega
  have hlen : (opB o).length = ((ints10 o).flatMap enc).length + ((encT o.nt).length + ((enc o.se).length + ((enc o.nn).length + ((encT o.tx).length + ((enc o.ov.length).length + (ovEnc o.ov).length))))) := by
    rw [opB_eq]; simp only [List.length_append]
  have e0 : opB o ++ t = (ints10 o).flatMap enc ++ (encT o.nt ++ (enc o.se ++ (enc o.nn ++ (encT o.tx ++ (enc o.ov.length ++ (ovEnc o.ov ++ t)))))) := by rw [opB_eq]; simp only [List.append_assoc]
  have s0 : St l (0, 0) [] ((ints10 o).flatMap enc ++ (encT o.nt ++ (enc o.se ++ (enc o.nn ++ (encT o.tx ++ (enc o.ov.length ++ (ovEnc o.ov ++ t))))))) k := ⟨by rw [hl, e0]; rfl, rfl⟩
  have hq0 : fQ0 l = (nF l (ints10 o).length (0, 0)).2 := by unfold fQ0; rw [nR_nF]; rfl
  have hv0 : (nR l 10).1 = (nF l (ints10 o).length (0, 0)).1 := by rw [nR_nF]; rfl
  obtain ⟨a1, a2⟩ := s0.nums (ints10 o) (ints10_get o ho)
  rw [← hq0, ← hv0] at a2
  rw [← hq0] at a1
  rw [hlen]
  rcases Nat.lt_or_ge k ((ints10 o).flatMap enc).length with hk | hk
  · exact ⟨fun _ => by rw [fE_0 (by rw [a1 hk]; decide), a1 hk], fun h => by omega⟩
  obtain ⟨s1, v1⟩ := a2 hk
  obtain ⟨a1, a2⟩ := s1.text hnt
  rcases Nat.lt_or_ge (k - ((ints10 o).flatMap enc).length) (encT o.nt).length with hk1 | hk1
  · have := a1 hk1
    exact ⟨fun _ => by rw [fE_1 (by show (tQ l (fQ0 l)).2 ≠ 0; rw [this]; decide)]; exact this, fun h => by omega⟩
  obtain ⟨s2, v2⟩ := a2 hk1
  obtain ⟨a1, a2⟩ := s2.num ho.se
  rcases Nat.lt_or_ge (k - ((ints10 o).flatMap enc).length - (encT o.nt).length) (enc o.se).length with hk2 | hk2
  · have := a1 hk2
    exact ⟨fun _ => by rw [fE_2 (by show (rQ l (fQ1 l)).2 ≠ 0; unfold fQ1; rw [this]; decide)]; exact this, fun h => by omega⟩
  obtain ⟨s3, v3⟩ := a2 hk2
  obtain ⟨a1, a2⟩ := s3.num ho.nn
  rcases Nat.lt_or_ge (k - ((ints10 o).flatMap enc).length - (encT o.nt).length - (enc o.se).length) (enc o.nn).length with hk3 | hk3
  · have := a1 hk3
    exact ⟨fun _ => by rw [fE_3 (by show (rQ l (fQ2 l)).2 ≠ 0; unfold fQ2 fQ1; rw [this]; decide)]; exact this, fun h => by omega⟩
  obtain ⟨s4, v4⟩ := a2 hk3
  obtain ⟨a1, a2⟩ := s4.text htx
  rcases Nat.lt_or_ge (k - ((ints10 o).flatMap enc).length - (encT o.nt).length - (enc o.se).length - (enc o.nn).length) (encT o.tx).length with hk4 | hk4
  · have := a1 hk4
    exact ⟨fun _ => by rw [fE_4 (by show (tQ l (fQ3 l)).2 ≠ 0; unfold fQ3 fQ2 fQ1; rw [this]; decide)]; exact this, fun h => by omega⟩
  obtain ⟨s5, v5⟩ := a2 hk4
  obtain ⟨a1, a2⟩ := s5.num (n := (o.ov.length : Int)) ⟨by omega, by omega⟩
  rcases Nat.lt_or_ge (k - ((ints10 o).flatMap enc).length - (encT o.nt).length - (enc o.se).length - (enc o.nn).length - (encT o.tx).length) (enc o.ov.length).length with hk5 | hk5
  · have := a1 hk5
    exact ⟨fun _ => by rw [fE_5 (by show (rQ l (fQ4 l)).2 ≠ 0; unfold fQ4 fQ3 fQ2 fQ1; rw [this]; decide)]; exact this, fun h => by omega⟩
  obtain ⟨s6, v6⟩ := a2 hk5
  have hN : fN l = o.ov.length := v6
  have h6 : fQ6 l = fQ5 l := by unfold fQ6; rw [hN, if_neg (by omega)]
  have s6 := (show St l (fQ5 l) _ _ _ from s6)
  rw [← h6] at s6
  obtain ⟨a1, a2⟩ := s6.stamps o.ov ho.ov
  have hS : fS l = sGo l o.ov.length (fQ6 l) := by unfold fS; rw [hN, Int.toNat_natCast]
  rw [← hS] at a1 a2
  rcases Nat.lt_or_ge (k - ((ints10 o).flatMap enc).length - (encT o.nt).length - (enc o.se).length - (enc o.nn).length - (encT o.tx).length - (enc o.ov.length).length) (ovEnc o.ov).length with hk6 | hk6
  · have := a1 hk6
    exact ⟨fun _ => by rw [fE_8 (by rw [this]; decide)]; exact this, fun h => by omega⟩
  obtain ⟨s7, v7⟩ := a2 hk6
  refine ⟨fun h => by omega, fun _ => ⟨?_, ?_⟩⟩
  · have e : fO l = { opOf (nR l 10).1 with nt := tN l (fQ0 l), se := rN l (fQ1 l), nn := rN l (fQ2 l), tx := tN l (fQ3 l), ov := (fS l).1 } := rfl
    have v3' : rN l (fQ1 l) = o.se := v3
    have v4' : rN l (fQ2 l) = o.nn := v4
    have v5' : tN l (fQ3 l) = o.tx := v5
    rw [e, v1, v2, v3', v4', v5', v7]
    exact opOf_ints10 o
  · rw [s7.2]
    simp only [List.length_append, List.length_nil, Nat.zero_add]
    congr 2
    omega

theorem rQ_enc {l : List UInt8} {q : Int × Int} (h : (rQ l q).2 = 0) : q.2 = 0 ∧ l.take (rQ l q).1.toNat = l.take q.1.toNat ++ enc (rN l q) := by
  by_cases h0 : q.2 = 0
  · refine ⟨h0, ?_⟩
    unfold rQ at h ⊢
    unfold rN
    rw [if_pos h0] at h ⊢
    rw [if_pos h0]
    exact read_enc h
  · rw [rQ_stop h0] at h; exact absurd h h0
theorem tQ_enc {l : List UInt8} {q : Int × Int} (h : (tQ l q).2 = 0) : q.2 = 0 ∧ l.take (tQ l q).1.toNat = l.take q.1.toNat ++ encT (tN l q) := by
  by_cases h0 : q.2 = 0
  · refine ⟨h0, ?_⟩
    unfold tQ at h ⊢
    unfold tN
    rw [if_pos h0] at h ⊢
    rw [if_pos h0]
    exact (tx_enc h).1
  · rw [tQ_stop h0] at h; exact absurd h h0
theorem nF_enc {l : List UInt8} (k : Nat) : ∀ {q : Int × Int}, (nF l k q).2.2 = 0 → q.2 = 0 ∧ l.take (nF l k q).2.1.toNat = l.take q.1.toNat ++ (nF l k q).1.flatMap enc := by
  induction k with
  | zero => intro q h; exact ⟨h, by simp [nF]⟩
  | succ k ih =>
    intro q h
    rw [nF] at h ⊢
    obtain ⟨a1, a2⟩ := ih h
    obtain ⟨b1, b2⟩ := rQ_enc a1
    refine ⟨b1, ?_⟩
    show l.take (nF l k (rQ l q)).2.1.toNat = _
    rw [a2, b2, List.append_assoc]; rfl
theorem sGo_enc {l : List UInt8} (k : Nat) : ∀ {q : Int × Int}, (sGo l k q).2.2 = 0 → q.2 = 0 ∧ l.take (sGo l k q).2.1.toNat = l.take q.1.toNat ++ ovEnc (sGo l k q).1 ∧ (sGo l k q).1.length = k := by
  induction k with
  | zero => intro q h; exact ⟨h, by simp [sGo, ovEnc], rfl⟩
  | succ k ih =>
    intro q h
    by_cases h0 : q.2 = 0
    · rw [sGo, if_pos h0] at h ⊢
      obtain ⟨a1, a2, a3⟩ := ih h
      obtain ⟨b1, b2⟩ := rQ_enc a1
      obtain ⟨c1, c2⟩ := rQ_enc b1
      refine ⟨h0, ?_, by simpa using a3⟩
      show l.take (sGo l k (rQ l (rQ l q))).2.1.toNat = _
      rw [a2, b2, c2, List.append_assoc, List.append_assoc]
      show _ = l.take q.1.toNat ++ ((enc _ ++ enc _) ++ ovEnc _)
      rw [List.append_assoc]
    · rw [sGo_stop h0] at h; exact absurd h h0
theorem sGo_ok {l : List UInt8} (k : Nat) : ∀ {q : Int × Int}, Qok l q → Qok l (sGo l k q).2 := by
  induction k with
  | zero => intro q h; exact h
  | succ k ih =>
    intro q h
    rw [sGo]; split
    · exact ih h.rQ.rQ
    · exact h
theorem fQ6_in {l : List UInt8} (h : (fQ6 l).2 = 0) : 0 ≤ fN l ∧ fN l ≤ 16 := by
  unfold fQ6 at h
  split at h
  · exact absurd (show (3 : Int) = 0 from h) (by decide)
  · rename_i h'
    by_cases hn : 0 ≤ fN l ∧ fN l ≤ 16
    · exact hn
    · exact absurd ⟨h, by omega⟩ h'
/-- where From has no error, every step has none -/
theorem from_all {l : List UInt8} (h : fE l = 0) : checkE (fO l) = 0 ∧ (fS l).2.2 = 0 ∧ ¬ (fS l).2.1 < l.length ∧ (fQ6 l).2 = 0 ∧ fQ6 l = fQ5 l ∧ 0 ≤ fN l ∧ fN l ≤ 16 := by
  obtain ⟨h1, h2⟩ := orE_zero h
  have h8 : (fS l).2.2 = 0 ∧ ¬ (fS l).2.1 < l.length := by
    unfold fQ8 at h1
    split at h1
    · exact absurd (show (3 : Int) = 0 from h1) (by decide)
    · rename_i h'; exact ⟨h1, fun h'' => h' ⟨h1, h''⟩⟩
  have h6 : (fQ6 l).2 = 0 := (sGo_enc (fN l).toNat (show (sGo l (fN l).toNat (fQ6 l)).2.2 = 0 from h8.1)).1
  have h5 : fQ6 l = fQ5 l := by
    unfold fQ6 at h6 ⊢
    split
    · rename_i h'; rw [if_pos h'] at h6; exact absurd (show (3 : Int) = 0 from h6) (by decide)
    · rfl
  have := fQ6_in h6
  exact ⟨h2, h8.1, h8.2, h6, h5, this.1, this.2⟩
/-- the bytes that From accepts are those that Bytes returns -/
theorem from_only {l : List UInt8} (h : fE l = 0) : opB (fO l) = l := by
  obtain ⟨_, h8, hlt, h6, h5, n0, n16⟩ := from_all h
  obtain ⟨_, c1, c2⟩ := sGo_enc (fN l).toNat (show (sGo l (fN l).toNat (fQ6 l)).2.2 = 0 from h8)
  have c1 : l.take (fS l).2.1.toNat = l.take (fQ6 l).1.toNat ++ ovEnc (fS l).1 := c1
  have c2 : (fS l).1.length = (fN l).toNat := c2
  rw [h5] at h6 c1
  obtain ⟨g4, d5⟩ := rQ_enc (show (rQ l (fQ4 l)).2 = 0 from h6)
  obtain ⟨g3, d4⟩ := tQ_enc (show (tQ l (fQ3 l)).2 = 0 from g4)
  obtain ⟨g2, d3⟩ := rQ_enc (show (rQ l (fQ2 l)).2 = 0 from g3)
  obtain ⟨g1, d2⟩ := rQ_enc (show (rQ l (fQ1 l)).2 = 0 from g2)
  obtain ⟨g0, d1⟩ := tQ_enc (show (tQ l (fQ0 l)).2 = 0 from g1)
  have hq0 : fQ0 l = (nF l 10 (0, 0)).2 := by unfold fQ0; rw [nR_nF]
  have hv0 : (nR l 10).1 = (nF l 10 (0, 0)).1 := by rw [nR_nF]
  obtain ⟨_, d0⟩ := nF_enc (l := l) 10 (q := (0, 0)) (by rw [← hq0]; exact g0)
  rw [← hq0, ← hv0] at d0
  have q5 : Qok l (fQ5 l) := ((((nR_ok l 10).tQ.rQ).rQ).tQ).rQ
  have q6 : Qok l (fQ6 l) := by rw [h5]; exact q5
  have q8 : Qok l (fS l).2 := sGo_ok _ q6
  have hfull : l.take (fS l).2.1.toNat = l := List.take_of_length_le (by have := q8.1; omega)
  rw [hfull] at c1
  have hN : (((fS l).1.length : Nat) : Int) = fN l := by rw [c2]; omega
  have d5 : l.take (fQ5 l).1.toNat = l.take (fQ4 l).1.toNat ++ enc (fN l) := d5
  have d4 : l.take (fQ4 l).1.toNat = l.take (fQ3 l).1.toNat ++ encT (tN l (fQ3 l)) := d4
  have d3 : l.take (fQ3 l).1.toNat = l.take (fQ2 l).1.toNat ++ enc (rN l (fQ2 l)) := d3
  have d2 : l.take (fQ2 l).1.toNat = l.take (fQ1 l).1.toNat ++ enc (rN l (fQ1 l)) := d2
  have d1 : l.take (fQ1 l).1.toNat = l.take (fQ0 l).1.toNat ++ encT (tN l (fQ0 l)) := d1
  have hi : ints10 (fO l) = (nR l 10).1 := by
    have hl := nR_len l 10
    show ints10 (opOf (nR l 10).1) = _
    generalize (nR l 10).1 = v at hl ⊢
    rcases v with _ | ⟨a0, _ | ⟨a1, _ | ⟨a2, _ | ⟨a3, _ | ⟨a4, _ | ⟨a5, _ | ⟨a6, _ | ⟨a7, _ | ⟨a8, _ | ⟨a9, v⟩⟩⟩⟩⟩⟩⟩⟩⟩⟩
    all_goals simp at hl
    subst hl
    rfl
  rw [opB_eq, hi]
  show (nR l 10).1.flatMap enc ++ (encT (tN l (fQ0 l)) ++ (enc (rN l (fQ1 l)) ++ (enc (rN l (fQ2 l)) ++ (encT (tN l (fQ3 l)) ++ (enc (((fS l).1.length : Nat) : Int) ++ ovEnc (fS l).1))))) = l
  rw [hN]
  refine Eq.trans ?_ c1.symm
  rw [d5, d4, d3, d2, d1, d0]
  simp only [List.append_assoc, Int.toNat_zero, List.take_zero, List.nil_append]
theorem fR_ok {l : List UInt8} (h : fE l = 0) : fR l = fO l := by unfold fR; rw [if_pos h]
end Go.Proofs.YtfjiikcbcoohdaaDoor
