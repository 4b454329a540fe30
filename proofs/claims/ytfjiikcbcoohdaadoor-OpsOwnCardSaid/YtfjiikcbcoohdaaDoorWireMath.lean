/-
  Plain laws of layer 4: what was put is read; what is read was put; a beginning is too short. Conditions: none; no program in sight.
-/
import Derived.Test.YtfjiikcbcoohdaaDoorWireList
import Derived.Test.YtfjiikcbcoohdaaDoorWirePut2
namespace Go.Proofs.YtfjiikcbcoohdaaDoor
open Go.RowKit
set_option linter.unusedVariables false

theorem tx_read (l s t : List UInt8) (hs : s.length ≤ 9223372036854775807) :
    txE (l ++ (encT s ++ t)) (l.length : Int) = 0 ∧ txS (l ++ (encT s ++ t)) (l.length : Int) = s ∧ txT (l ++ (encT s ++ t)) (l.length : Int) = (((l ++ encT s).length : Nat) : Int) := by
  have e : l ++ (encT s ++ t) = l ++ (enc s.length ++ (s ++ t)) := by unfold encT; rw [List.append_assoc]
  obtain ⟨h0, h1, h2⟩ := enc_read l (s.length : Int) (s ++ t) (by omega) (by omega)
  rw [e]
  obtain ⟨k0, k1, k2⟩ := len_ok h0 (by rw [h1]; omega)
  rw [h1] at k1
  rw [h2] at k2
  have hlen : (l ++ (enc s.length ++ (s ++ t))).length = l.length + (enc s.length).length + s.length + t.length := by simp only [List.length_append]; omega
  obtain ⟨t0, t1, t2⟩ := tx_ok k0 (by rw [k1, k2, hlen]; omega)
  refine ⟨t0, ?_, ?_⟩
  · rw [t1, k1, k2, Int.toNat_natCast, Int.toNat_natCast, ← List.append_assoc, List.drop_left' (by simp)]
    simp
  · rw [t2, k1, k2]; unfold encT; simp only [List.length_append]; omega

theorem rdM_read (t : List UInt8) : ∀ (m : List Int) (l : List UInt8), (∀ n ∈ m, -9223372036854775808 ≤ n ∧ n ≤ 9223372036854775807) →
    rdM (l ++ (m.flatMap enc ++ t)) m.length (l.length : Int) = (0, m, (((l ++ m.flatMap enc).length : Nat) : Int)) := by
  intro m
  induction m with
  | nil => intro l _; simp [rdM]
  | cons x m ih =>
    intro l hb
    have e : l ++ ((x :: m).flatMap enc ++ t) = l ++ (enc x ++ (m.flatMap enc ++ t)) := by rw [List.flatMap_cons, List.append_assoc]
    obtain ⟨h0, h1, h2⟩ := enc_read l x (m.flatMap enc ++ t) (hb x (by simp)).1 (hb x (by simp)).2
    have e2 : l ++ (enc x ++ (m.flatMap enc ++ t)) = (l ++ enc x) ++ (m.flatMap enc ++ t) := by rw [List.append_assoc]
    have := ih (l ++ enc x) (fun n hn => hb n (List.mem_cons_of_mem _ hn))
    rw [e, List.length_cons, rdM, if_pos h0, h1, h2]
    rw [← e2, List.length_append] at this
    rw [this, if_pos rfl]
    simp only [List.flatMap_cons, List.append_assoc, List.length_append]
theorem is_read (l : List UInt8) (m : List Int) (t : List UInt8) (hm : m.length ≤ 9223372036854775807) (hb : ∀ n ∈ m, -9223372036854775808 ≤ n ∧ n ≤ 9223372036854775807) :
    isR (l ++ (encL m ++ t)) (l.length : Int) = (0, m, (((l ++ encL m).length : Nat) : Int)) := by
  have e : l ++ (encL m ++ t) = l ++ (enc m.length ++ (m.flatMap enc ++ t)) := by unfold encL; rw [List.append_assoc]
  obtain ⟨h0, h1, h2⟩ := enc_read l (m.length : Int) (m.flatMap enc ++ t) (by omega) (by omega)
  rw [e]
  obtain ⟨k0, k1, k2⟩ := len_ok h0 (by rw [h1]; omega)
  rw [is_ok k0, k1, k2, h1, h2, Int.toNat_natCast]
  have := rdM_read t m (l ++ enc m.length) hb
  rw [List.append_assoc, List.length_append] at this
  rw [this]
  unfold encL
  rw [List.append_assoc]

theorem tx_enc {b : List UInt8} {a : Int} (h : txE b a = 0) : b.take (txT b a).toNat = b.take a.toNat ++ encT (txS b a) ∧ 0 ≤ txT b a ∧ txT b a ≤ b.length ∧ (txS b a).length ≤ b.length := by
  have hl : lenE b a = 0 := by
    by_cases h0 : lenE b a = 0
    · exact h0
    · have := (tx_err h0).1; omega
  have hn : ¬ lenN b a > b.length - lenT b a := fun hc => by have := (tx_short hl hc).1; omega
  obtain ⟨h1, h2⟩ := lenE_ok hl
  obtain ⟨_, k1, k2⟩ := len_ok h1 h2
  obtain ⟨b1, b2, b3, b4⟩ := len_bound hl
  obtain ⟨_, t1, t2⟩ := tx_ok hl hn
  have r := read_enc h1
  have hlen : ((b.drop (lenT b a).toNat).take (lenN b a).toNat).length = (lenN b a).toNat := by simp; omega
  rw [t1, t2]
  refine ⟨?_, by omega, by omega, by rw [hlen]; omega⟩
  unfold encT
  rw [hlen, show ((lenN b a).toNat : Int) = lenN b a by omega, ← List.append_assoc, k1, ← r, k2, show (rdT b a + rdN b a).toNat = (rdT b a).toNat + (rdN b a).toNat by rw [k1, k2] at *; omega, List.take_add]
theorem rdM_enc {b : List UInt8} : ∀ (n : Nat) (q : Int), 0 ≤ q → q ≤ b.length → (rdM b n q).1 = 0 → b.take (rdM b n q).2.2.toNat = b.take q.toNat ++ (rdM b n q).2.1.flatMap enc ∧ (rdM b n q).2.1.length = n ∧ 0 ≤ (rdM b n q).2.2 ∧ (rdM b n q).2.2 ≤ b.length ∧
    ∀ x ∈ (rdM b n q).2.1, -9223372036854775808 ≤ x ∧ x ≤ 9223372036854775807 := by
  intro n
  induction n with
  | zero => intro q h0 h1 _; simp [rdM, h0, h1]
  | succ n ih =>
    intro q h0 h1 h
    rw [rdM] at h ⊢
    by_cases hE : rdE b q = 0
    · rw [if_pos hE] at h ⊢
      obtain ⟨b1, b2, k3, k4⟩ := read_bound hE
      by_cases hR : (rdM b n (rdT b q)).1 = 0
      · rw [if_pos hR]
        obtain ⟨r1, r2, r3, r4, r5⟩ := ih (rdT b q) (by omega) k4 hR
        refine ⟨?_, by simp [r2], r3, r4, ?_⟩
        · dsimp only
          rw [r1, read_enc hE, List.flatMap_cons, List.append_assoc]
        · intro x hx
          rcases List.mem_cons.1 hx with rfl | hx
          · exact ⟨b1, b2⟩
          · exact r5 x hx
      · rw [if_neg hR] at h; exact absurd h hR
    · rw [if_neg hE] at h; exact absurd h hE
theorem is_enc {b : List UInt8} {a : Int} (h : isE b a = 0) : b.take (isT b a).toNat = b.take a.toNat ++ encL (isL b a) ∧ 0 ≤ isT b a ∧ isT b a ≤ b.length ∧ ∀ x ∈ isL b a, -9223372036854775808 ≤ x ∧ x ≤ 9223372036854775807 := by
  have hl : lenE b a = 0 := by
    by_cases h0 : lenE b a = 0
    · exact h0
    · unfold isE at h; rw [is_err h0] at h; exact absurd h h0
  obtain ⟨h1, h2⟩ := lenE_ok hl
  obtain ⟨_, k1, k2⟩ := len_ok h1 h2
  obtain ⟨b1, b2, b3, b4⟩ := len_bound hl
  unfold isE at h
  unfold isT isL
  rw [is_ok hl] at h ⊢
  obtain ⟨r1, r2, r3, r4, r5⟩ := rdM_enc _ _ b3 b4 h
  refine ⟨?_, r3, r4, r5⟩
  rw [r1]
  unfold encL
  rw [r2, show ((lenN b a).toNat : Int) = lenN b a by omega, k1, k2, read_enc h1, List.append_assoc]

/-- an encoding that is cut, behind other bytes -/
theorem rdE_cut (l : List UInt8) (n : Int) (k : Nat) (lo : -9223372036854775808 ≤ n) (hi : n ≤ 9223372036854775807) (h : k < (enc n).length) : rdE (l ++ (enc n).take k) (l.length : Int) = 4 := by
  have hr := rdv_cut 9 10 0 (zig n) k (by omega) (by omega) (by omega) (by have := zig_lt lo hi; simpa using this) h
  rw [rdE_in (by simp), List.drop_left' rfl]
  unfold enc
  rw [hr]; rfl
theorem tx_cut (s : List UInt8) (k : Nat) (hs : s.length ≤ 9223372036854775807) (h : k < (encT s).length) : txE ((encT s).take k) 0 = 4 := by
  rcases Nat.lt_or_ge k (enc s.length).length with h1 | h1
  · have e : (encT s).take k = [] ++ (enc s.length).take k := by unfold encT; rw [List.take_append_of_le_length (by omega)]; rfl
    have := rdE_cut [] (s.length : Int) k (by omega) (by omega) h1
    have h0 : rdE ((encT s).take k) 0 = 4 := by rw [e]; exact this
    have hne : rdE ((encT s).take k) 0 ≠ 0 := by rw [h0]; omega
    have hl := (len_err hne).1
    rw [(tx_err (by rw [hl]; exact hne)).1, hl, h0]
  · have e : (encT s).take k = [] ++ (enc s.length ++ s.take (k - (enc s.length).length)) := by
      unfold encT; rw [List.take_append, List.take_of_length_le (by omega)]; rfl
    obtain ⟨h0, h1', h2⟩ := enc_read [] (s.length : Int) (s.take (k - (enc s.length).length)) (by omega) (by omega)
    rw [← e] at h0 h1' h2
    have hz : ((([] : List UInt8).length : Nat) : Int) = 0 := rfl
    rw [hz] at h0 h1' h2
    obtain ⟨k0, k1, k2⟩ := len_ok h0 (by rw [h1']; omega)
    have hlt : k < (enc s.length).length + s.length := by unfold encT at h; rwa [List.length_append] at h
    refine (tx_short k0 ?_).1
    rw [k1, k2, h1', h2, List.length_take]
    unfold encT
    rw [List.length_append]
    simp only [List.length_nil, Nat.zero_add]
    omega
theorem rdM_cut : ∀ (m : List Int) (l : List UInt8) (k : Nat), (∀ n ∈ m, -9223372036854775808 ≤ n ∧ n ≤ 9223372036854775807) → k < (m.flatMap enc).length →
    (rdM (l ++ (m.flatMap enc).take k) m.length (l.length : Int)).1 = 4 := by
  intro m
  induction m with
  | nil => intro l k _ h; simp at h
  | cons x m ih =>
    intro l k hb h
    rw [List.flatMap_cons] at h ⊢
    have hx := hb x (by simp)
    rcases Nat.lt_or_ge k (enc x).length with h1 | h1
    · rw [List.take_append_of_le_length (by omega), List.length_cons, rdM]
      have := rdE_cut l x k hx.1 hx.2 h1
      rw [if_neg (by rw [this]; omega)]
      exact this
    · rw [List.take_append, List.take_of_length_le h1]
      obtain ⟨h0, h1', h2⟩ := enc_read l x ((m.flatMap enc).take (k - (enc x).length)) hx.1 hx.2
      rw [List.length_append] at h
      have := ih (l ++ enc x) (k - (enc x).length) (fun n hn => hb n (List.mem_cons_of_mem _ hn)) (by omega)
      rw [List.append_assoc, List.length_append] at this
      rw [List.length_cons, rdM, if_pos h0, h2, if_neg (by rw [this]; omega)]
      exact this
theorem is_cut (m : List Int) (k : Nat) (hm : m.length ≤ 9223372036854775807) (hb : ∀ n ∈ m, -9223372036854775808 ≤ n ∧ n ≤ 9223372036854775807) (h : k < (encL m).length) : isE ((encL m).take k) 0 = 4 := by
  have hz : ((([] : List UInt8).length : Nat) : Int) = 0 := rfl
  rcases Nat.lt_or_ge k (enc m.length).length with h1 | h1
  · have e : (encL m).take k = [] ++ (enc m.length).take k := by unfold encL; rw [List.take_append_of_le_length (by omega)]; rfl
    have := rdE_cut [] (m.length : Int) k (by omega) (by omega) h1
    have h0 : rdE ((encL m).take k) 0 = 4 := by rw [e]; exact this
    have hne : rdE ((encL m).take k) 0 ≠ 0 := by rw [h0]; omega
    have hl := (len_err hne).1
    unfold isE
    rw [is_err (by rw [hl]; exact hne)]
    show lenE _ _ = 4
    rw [hl, h0]
  · have e : (encL m).take k = [] ++ (enc m.length ++ (m.flatMap enc).take (k - (enc m.length).length)) := by
      unfold encL; rw [List.take_append, List.take_of_length_le (by omega)]; rfl
    obtain ⟨h0, h1', h2⟩ := enc_read [] (m.length : Int) ((m.flatMap enc).take (k - (enc m.length).length)) (by omega) (by omega)
    have hlt : k < (enc m.length).length + (m.flatMap enc).length := by unfold encL at h; rwa [List.length_append] at h
    have := rdM_cut m (enc m.length) (k - (enc m.length).length) hb (by omega)
    rw [← e] at h0 h1' h2
    rw [hz] at h0 h1' h2
    obtain ⟨k0, k1, k2⟩ := len_ok h0 (by rw [h1']; omega)
    unfold isE
    rw [is_ok k0, k1, k2, h1', h2, Int.toNat_natCast, e, List.nil_append]
    simpa using this
end Go.Proofs.YtfjiikcbcoohdaaDoor
