/-
  The plain functions of layer 4 for texts and lists, with the small lemmas that their walks use. Conditions: none.
-/
import Derived.Test.YtfjiikcbcoohdaaDoorWireBits
import Derived.Test.YtfjiikcbcoohdaaDoorGrow
import Derived.Test.YtfjiikcbcoohdaaDoorSeat8
namespace Go.Proofs.YtfjiikcbcoohdaaDoor
open Go.RowKit
set_option linter.unusedVariables false

theorem rdN_err {b : List UInt8} {a : Int} (h : rdE b a ≠ 0) : rdN b a = 0 := by unfold rdN; rw [if_neg h]
theorem rdT_err {b : List UInt8} {a : Int} (h : rdE b a ≠ 0) : rdT b a = 0 := by unfold rdT; rw [if_neg h]

def lenE (b : List UInt8) (a : Int) : Int := if rdE b a = 0 ∧ rdN b a < 0 then 3 else rdE b a
def lenN (b : List UInt8) (a : Int) : Int := if lenE b a = 0 then rdN b a else 0
def lenT (b : List UInt8) (a : Int) : Int := if lenE b a = 0 then rdT b a else 0
theorem lenN_err {b : List UInt8} {a : Int} (h : lenE b a ≠ 0) : lenN b a = 0 := by unfold lenN; rw [if_neg h]
theorem lenT_err {b : List UInt8} {a : Int} (h : lenE b a ≠ 0) : lenT b a = 0 := by unfold lenT; rw [if_neg h]
theorem len_neg {b : List UInt8} {a : Int} (h : rdE b a = 0) (hn : rdN b a < 0) : lenE b a = 3 ∧ lenN b a = 0 ∧ lenT b a = 0 := by
  have e : lenE b a = 3 := by unfold lenE; rw [if_pos ⟨h, hn⟩]
  exact ⟨e, lenN_err (by omega), lenT_err (by omega)⟩
theorem len_ok {b : List UInt8} {a : Int} (h : rdE b a = 0) (hn : 0 ≤ rdN b a) : lenE b a = 0 ∧ lenN b a = rdN b a ∧ lenT b a = rdT b a := by
  have e : lenE b a = 0 := by unfold lenE; rw [if_neg (by omega)]; exact h
  exact ⟨e, by unfold lenN; rw [if_pos e], by unfold lenT; rw [if_pos e]⟩
theorem len_err {b : List UInt8} {a : Int} (h : rdE b a ≠ 0) : lenE b a = rdE b a ∧ lenN b a = 0 ∧ lenT b a = 0 := by
  have e : lenE b a = rdE b a := by unfold lenE; rw [if_neg (fun c => h c.1)]
  exact ⟨e, lenN_err (by rw [e]; exact h), lenT_err (by rw [e]; exact h)⟩
theorem lenE_ok {b : List UInt8} {a : Int} (h : lenE b a = 0) : rdE b a = 0 ∧ 0 ≤ rdN b a := by
  unfold lenE at h
  split at h
  · omega
  · rename_i h1; exact ⟨h, by omega⟩
theorem len_bound {b : List UInt8} {a : Int} (h : lenE b a = 0) : 0 ≤ lenN b a ∧ lenN b a ≤ 9223372036854775807 ∧ 0 ≤ lenT b a ∧ lenT b a ≤ b.length := by
  obtain ⟨h1, h2⟩ := lenE_ok h
  obtain ⟨e0, e1, e2⟩ := len_ok h1 h2
  obtain ⟨k1, k2, k3, k4⟩ := read_bound h1
  have := (rdE_ok h1).1
  rw [e1, e2]
  exact ⟨h2, k2, by omega, k4⟩

def txE (b : List UInt8) (a : Int) : Int := if lenE b a = 0 then (if lenN b a > b.length - lenT b a then 4 else 0) else lenE b a
def txS (b : List UInt8) (a : Int) : List UInt8 := if txE b a = 0 then (b.drop (lenT b a).toNat).take (lenN b a).toNat else []
def txT (b : List UInt8) (a : Int) : Int := if txE b a = 0 then lenT b a + lenN b a else 0
theorem tx_short {b : List UInt8} {a : Int} (h : lenE b a = 0) (hn : lenN b a > b.length - lenT b a) : txE b a = 4 ∧ txS b a = [] ∧ txT b a = 0 := by
  have e : txE b a = 4 := by unfold txE; rw [if_pos h, if_pos hn]
  exact ⟨e, by unfold txS; rw [if_neg (by omega)], by unfold txT; rw [if_neg (by omega)]⟩
theorem tx_ok {b : List UInt8} {a : Int} (h : lenE b a = 0) (hn : ¬ lenN b a > b.length - lenT b a) : txE b a = 0 ∧ txS b a = (b.drop (lenT b a).toNat).take (lenN b a).toNat ∧ txT b a = lenT b a + lenN b a := by
  have e : txE b a = 0 := by unfold txE; rw [if_pos h, if_neg hn]
  exact ⟨e, by unfold txS; rw [if_pos e], by unfold txT; rw [if_pos e]⟩
theorem tx_err {b : List UInt8} {a : Int} (h : lenE b a ≠ 0) : txE b a = lenE b a ∧ txS b a = [] ∧ txT b a = 0 := by
  have e : txE b a = lenE b a := by unfold txE; rw [if_neg h]
  exact ⟨e, by unfold txS; rw [if_neg (by rw [e]; exact h)], by unfold txT; rw [if_neg (by rw [e]; exact h)]⟩

/-- n numbers from an index on: the error, the numbers, the index behind them -/
def rdM (b : List UInt8) : Nat → Int → Int × List Int × Int
  | 0, q => (0, [], q)
  | n+1, q => if rdE b q = 0 then (if (rdM b n (rdT b q)).1 = 0 then (0, rdN b q :: (rdM b n (rdT b q)).2.1, (rdM b n (rdT b q)).2.2) else ((rdM b n (rdT b q)).1, [], 0)) else (rdE b q, [], 0)
def isR (b : List UInt8) (a : Int) : Int × List Int × Int := if lenE b a = 0 then rdM b (lenN b a).toNat (lenT b a) else (lenE b a, [], 0)
def isE (b : List UInt8) (a : Int) : Int := (isR b a).1
def isL (b : List UInt8) (a : Int) : List Int := (isR b a).2.1
def isT (b : List UInt8) (a : Int) : Int := (isR b a).2.2
theorem is_ok {b : List UInt8} {a : Int} (h : lenE b a = 0) : isR b a = rdM b (lenN b a).toNat (lenT b a) := by unfold isR; rw [if_pos h]
theorem is_err {b : List UInt8} {a : Int} (h : lenE b a ≠ 0) : isR b a = (lenE b a, [], 0) := by unfold isR; rw [if_neg h]
/-- l was read already -/
def combM (l : List Int) (r : Int × List Int × Int) : Int × List Int × Int := if r.1 = 0 then (0, l ++ r.2.1, r.2.2) else (r.1, [], 0)
theorem rdM_err (b : List UInt8) (n : Nat) (q : Int) (h : (rdM b n q).1 ≠ 0) : (rdM b n q).2 = ([], 0) := by
  rcases n with _ | n
  · exact absurd rfl h
  · rw [rdM] at h ⊢
    split at h
    · rename_i h1
      rw [if_pos h1]
      split at h
      · exact absurd rfl h
      · rename_i h2; rw [if_neg h2]
    · rename_i h1; rw [if_neg h1]
theorem combM_nil (b : List UInt8) (n : Nat) (q : Int) : combM [] (rdM b n q) = rdM b n q := by
  unfold combM
  split
  · rename_i h; rw [List.nil_append, ← h]
  · rename_i h; rw [← rdM_err b n q h]
theorem ints_next {b : List UInt8} {m j : Nat} {t q : Int} {l : List Int} (hj : j < m) (hE : rdE b q = 0) (h : combM l (rdM b (m - j) q) = rdM b m t) :
    combM (l ++ [rdN b q]) (rdM b (m - (j + 1)) (rdT b q)) = rdM b m t := by
  rw [← h, show m - j = (m - (j + 1)) + 1 by omega, rdM, if_pos hE]
  generalize rdM b (m - (j + 1)) (rdT b q) = r
  by_cases h1 : r.1 = 0
  · rw [if_pos h1]; simp [combM, h1]
  · rw [if_neg h1]; simp [combM, h1]
theorem ints_stop {b : List UInt8} {m j : Nat} {t q : Int} {l : List Int} (hj : j < m) (hE : rdE b q ≠ 0) (h : combM l (rdM b (m - j) q) = rdM b m t) : rdM b m t = (rdE b q, [], 0) := by
  rw [← h, show m - j = (m - (j + 1)) + 1 by omega, rdM, if_neg hE]
  simp [combM, hE]
theorem ints_end {b : List UInt8} {m j : Nat} {t q : Int} {l : List Int} (hj : m ≤ j) (h : combM l (rdM b (m - j) q) = rdM b m t) : rdM b m t = (0, l, q) := by
  rw [← h, show m - j = 0 by omega, rdM]
  simp [combM]

/-- the call returns a list, an index and an error -/
def RetList (l : List Int) (t e : Int) (w : World) (en : Ending) (w' : World) : Prop :=
  ∃ A c, en = .returned (.tuple #[.slice A l.length c, .int .i64 t, .int .i64 e]) ∧ Own w' w.heap.size 3 1 (.slice A l.length c) l.length (l.map I64) ∧ Below w.heap.size w w'
theorem retList {b : List UInt8} {a : Int} {l : List Int} {t e : Int} {w w' : World} {A : Option Addr} {c : Nat} (h : isR b a = (e, l, t)) (ho : Own w' w.heap.size 3 1 (.slice A l.length c) l.length (l.map I64)) (hb : Below w.heap.size w w') :
    RetList (isL b a) (isT b a) (isE b a) w (.returned (.tuple #[.slice A l.length c, .int .i64 t, .int .i64 e])) w' := by
  unfold isL isT isE; rw [h]; exact ⟨A, c, rfl, ho, hb⟩
def ListRel (w : World) (b : List UInt8) (m : Nat) (t : Int) (vq vl vi : Value) (wr : World) : Prop :=
  ∃ (j : Nat) (A1 : Option Addr) (c1 : Nat) (l1 : List Int) (q : Int), j ≤ m ∧ vq = .int .i64 q ∧ vi = .int .i64 j ∧ vl = .slice A1 l1.length c1 ∧ 0 ≤ q ∧ q ≤ b.length ∧ l1.length ≤ q ∧
    combM l1 (rdM b (m - j) q) = rdM b m t ∧ Own wr w.heap.size 3 1 (.slice A1 l1.length c1) l1.length (l1.map I64) ∧ Below w.heap.size w wr
theorem ListRel.start (w : World) (b : List UInt8) (m : Nat) (t : Int) (h0 : 0 ≤ t) (h1 : t ≤ b.length) : ListRel w b m t (.int .i64 t) (.slice none 0 0) (.int .i64 0) w :=
  ⟨0, none, 0, [], t, by omega, rfl, rfl, rfl, h0, h1, by simpa using h0, combM_nil b m t, Own.nil _ _ _ _, Below.refl _ _⟩

/-- 'b[k:k+m]' -/
theorem Rd.part {w : World} {b off : Nat} {l : List UInt8} (h : Rd w (some ⟨b, off, none⟩) (l.map U8)) (k m : Nat) : Rd w (some ⟨b, off + k, none⟩) (((l.drop k).take m).map U8) := by
  intro hne
  have hl : l.map U8 ≠ [] := by
    intro e; simp at e; subst e; simp at hne
  obtain ⟨b', off', e, hb, hc⟩ := h hl
  injection e with e
  injection e with e1 e2
  subst e1 e2
  refine ⟨b, off + k, rfl, hb, fun j u hu => ?_⟩
  rw [Nat.add_assoc]
  apply hc
  have hj : j < ((l.drop k).take m).length := by have := (List.getElem?_eq_some_iff.1 hu).1; simpa using this
  have hj' : j < m ∧ k + j < l.length := by simp at hj; omega
  rw [← hu]
  simp [hj']
theorem slice_run (w : World) (A : Option Addr) (c : Nat) (b : List UInt8) (hc : b.length ≤ c) (h : Rd w A (b.map U8)) (k m : Nat) (hk : k + m ≤ b.length) :
    ∃ A', (Instr.slice 35 (.slice A b.length c) (some (.int .i64 (k : Int))) (some (.int .i64 ((k : Int) + (m : Int)))) none).run Tryd.prog w = .ok (.slice A' m (c - k)) w ∧ Rd w A' (((b.drop k).take m).map U8) := by
  have hel : Tryd.prog.elem 35 = 5 := by kernel_rfl
  have h1 := run_slice_lh (P := Tryd.prog) (w := w) 35 A b.length c (by rw [hel]; exact Tryd.underlying35) .i64 .i64 (k : Int) ((k : Int) + (m : Int)) (by omega) (by omega) (by omega)
  have hsz : (sizeOf (Tryd.prog.elem 35)).run Tryd.prog w = .ok 1 w := by
    rw [hel]
    obtain ⟨i0, hi0, hz0, hz1, hz2⟩ := info_parts info_u8
    simp [sizeOf, typeInfo, hi0, hz1]
  rw [hsz] at h1
  simp only [Result.andThen_ok, sliced, Int.toNat_natCast, Nat.mul_one] at h1
  rw [show ((k : Int) + (m : Int)).toNat - k = m by omega] at h1
  refine ⟨_, h1, ?_⟩
  by_cases hck : c = k
  · rw [if_pos hck]
    obtain rfl : m = 0 := by omega
    exact Rd.nil _ _
  · rw [if_neg hck]
    rcases Nat.eq_zero_or_pos m with h0 | h0
    · subst h0; exact Rd.nil _ _
    · obtain ⟨b', off', e, _, _⟩ := h (by intro e; have := congrArg List.length e; simp at this; subst this; simp at hk; omega)
      subst e
      show Rd w (some ((⟨b', off', none⟩ : Addr).add k)) _
      rw [add_plain]
      exact h.part k m
end Go.Proofs.YtfjiikcbcoohdaaDoor
