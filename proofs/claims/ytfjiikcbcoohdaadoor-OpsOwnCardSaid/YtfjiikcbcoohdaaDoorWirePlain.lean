/-
  The plain functions of layer 4 (wire): numbers as bytes, read and written, and their laws. Conditions: none; no program in sight.
-/
import Derived.WalkKit
namespace Go.Proofs.YtfjiikcbcoohdaaDoor
open Go.RowKit
set_option linter.unusedVariables false

/-- a number without its sign -/
def zig (n : Int) : Nat := if 0 ≤ n then (2 * n).toNat else (-2 * n - 1).toNat
def unzig (v : Nat) : Int := if v % 2 = 0 then ((v / 2 : Nat) : Int) else -((v / 2 : Nat) : Int) - 1
theorem unzig_zig (n : Int) : unzig (zig n) = n := by
  unfold unzig zig; split <;> split <;> omega
theorem zig_unzig (v : Nat) : zig (unzig v) = v := by
  unfold unzig zig; split <;> split <;> omega
theorem zig_lt {n : Int} (lo : -9223372036854775808 ≤ n) (hi : n ≤ 9223372036854775807) : zig n < 18446744073709551616 := by
  unfold zig; split <;> omega
theorem unzig_lo {v : Nat} (h : v < 18446744073709551616) : -9223372036854775808 ≤ unzig v ∧ unzig v ≤ 9223372036854775807 := by
  unfold unzig; split <;> omega

/-- at most k + 1 bytes -/
def vb : Nat → Nat → List UInt8
  | 0, x => [UInt8.ofNat x]
  | k+1, x => if x < 128 then [UInt8.ofNat x] else UInt8.ofNat (x % 128 + 128) :: vb k (x / 128)
def enc (n : Int) : List UInt8 := vb 9 (zig n)

theorem vb_ne (k x : Nat) : vb k x ≠ [] := by
  cases k with
  | zero => simp [vb]
  | succ k => rw [vb]; split <;> simp
theorem vb_length (k x : Nat) : (vb k x).length ≤ k + 1 := by
  induction k generalizing x with
  | zero => simp [vb]
  | succ k ih => rw [vb]; split <;> simp; exact ih _
theorem enc_length (n : Int) : 1 ≤ (enc n).length ∧ (enc n).length ≤ 10 := by
  have h1 := vb_length 9 (zig n)
  have h2 := List.length_pos_iff.2 (vb_ne 9 (zig n))
  exact ⟨h2, h1⟩

/-- the digits from place i on, at most f of them: the error (0, 3: another form, 4: too short), the number, how many bytes it takes -/
def rdv : Nat → Nat → List UInt8 → Nat × Nat × Nat
  | 0, _, _ => (3, 0, 0)
  | _+1, _, [] => (4, 0, 0)
  | f+1, i, c :: s =>
    if 128 ≤ c.toNat then
      if (rdv f (i + 1) s).1 = 0 then (0, c.toNat - 128 + 128 * (rdv f (i + 1) s).2.1, (rdv f (i + 1) s).2.2 + 1) else ((rdv f (i + 1) s).1, 0, 0)
    else if (c.toNat = 0 ∧ 0 < i) ∨ (i = 9 ∧ 1 < c.toNat) then (3, 0, 0) else (0, c.toNat, 1)

/-- reading at an index: the number, the index behind it, the error -/
def rdE (b : List UInt8) (at_ : Int) : Int := if at_ < 0 ∨ (b.length : Int) < at_ then 2 else ((rdv 10 0 (b.drop at_.toNat)).1 : Nat)
def rdN (b : List UInt8) (at_ : Int) : Int := if rdE b at_ = 0 then unzig (rdv 10 0 (b.drop at_.toNat)).2.1 else 0
def rdT (b : List UInt8) (at_ : Int) : Int := if rdE b at_ = 0 then at_ + ((rdv 10 0 (b.drop at_.toNat)).2.2 : Nat) else 0

theorem byte_nat (x : Nat) (h : x < 256) : (UInt8.ofNat x).toNat = x := by rw [UInt8.toNat_ofNat']; omega

/-- what was written is read, whatever follows -/
theorem rdv_vb (k : Nat) : ∀ (f i x : Nat) (s : List UInt8), k + 1 ≤ f → i + k = 9 → (0 < i → 0 < x) → x < 2 ^ (7 * k + 1) →
    rdv f i (vb k x ++ s) = (0, x, (vb k x).length) := by
  induction k with
  | zero =>
    intro f i x s hf hi h0 hx
    obtain ⟨f, rfl⟩ : ∃ f', f = f' + 1 := ⟨f - 1, by omega⟩
    have hx' : x < 2 := by simpa using hx
    have hb := byte_nat x (by omega)
    rw [vb, List.singleton_append, rdv, hb, if_neg (by omega), if_neg (by omega)]
    rfl
  | succ k ih =>
    intro f i x s hf hi h0 hx
    obtain ⟨f, rfl⟩ : ∃ f', f = f' + 1 := ⟨f - 1, by omega⟩
    rw [vb]
    split
    · rename_i h
      have hb := byte_nat x (by omega)
      rw [List.singleton_append, rdv, hb, if_neg (by omega), if_neg (by omega)]
      rfl
    · rename_i h
      have hb := byte_nat (x % 128 + 128) (by omega)
      have hp : 2 ^ (7 * (k + 1) + 1) = 128 * 2 ^ (7 * k + 1) := by
        rw [show 7 * (k + 1) + 1 = (7 * k + 1) + 7 by omega, Nat.pow_add]; omega
      have hr := ih f (i + 1) (x / 128) s (by omega) (by omega) (fun _ => by omega) (by rw [hp] at hx; omega)
      rw [List.cons_append, rdv, hb, if_pos (by omega), hr, if_pos rfl]
      simp only [List.length_cons, Prod.mk.injEq, true_and, and_true]
      omega
/-- what is read was written -/
theorem vb_rdv : ∀ (f i : Nat) (s : List UInt8), i + f = 10 → 0 < f → (rdv f i s).1 = 0 →
    (0 < i → 0 < (rdv f i s).2.1) ∧ (rdv f i s).2.1 < 2 ^ (7 * (f - 1) + 1) ∧ (rdv f i s).2.2 ≤ s.length ∧ s.take (rdv f i s).2.2 = vb (f - 1) (rdv f i s).2.1 := by
  intro f
  induction f with
  | zero => intro i s _ h0; omega
  | succ f ih =>
    intro i s hi _ h
    rcases s with _ | ⟨c, s⟩
    · simp [rdv] at h
    · have hc := c.toNat_lt
      rw [rdv] at h ⊢
      by_cases h1 : 128 ≤ c.toNat
      · rw [if_pos h1] at h ⊢
        by_cases h2 : (rdv f (i + 1) s).1 = 0
        · rw [if_pos h2]
          have hf : 0 < f := by
            rcases Nat.eq_zero_or_pos f with h3 | h3
            · subst h3; simp [rdv] at h2
            · exact h3
          obtain ⟨r1, r2, r3, r4⟩ := ih (i + 1) s (by omega) hf h2
          have r1' := r1 (by omega)
          generalize (rdv f (i + 1) s).2.1 = v at *
          generalize (rdv f (i + 1) s).2.2 = k at *
          have hp : 2 ^ (7 * (f + 1 - 1) + 1) = 128 * 2 ^ (7 * (f - 1) + 1) := by
            rw [show 7 * (f + 1 - 1) + 1 = (7 * (f - 1) + 1) + 7 by omega, Nat.pow_add]; omega
          dsimp only
          refine ⟨fun _ => by omega, by rw [hp]; omega, by simp only [List.length_cons]; omega, ?_⟩
          rw [List.take_succ_cons, r4, show f + 1 - 1 = (f - 1) + 1 by omega, vb, if_neg (by omega)]
          congr 1
          · apply UInt8.toNat_inj.1
            rw [byte_nat _ (by omega)]; omega
          · congr 1; omega
        · rw [if_neg h2] at h; exact absurd h h2
      · rw [if_neg h1] at h ⊢
        by_cases h2 : (c.toNat = 0 ∧ 0 < i) ∨ (i = 9 ∧ 1 < c.toNat)
        · rw [if_pos h2] at h; simp at h
        · rw [if_neg h2]
          have hp : 2 ≤ 2 ^ (7 * (f + 1 - 1) + 1) := by rw [Nat.pow_succ]; have := Nat.two_pow_pos (7 * (f + 1 - 1)); omega
          have hp7 : 0 < f → 128 ≤ 2 ^ (7 * (f + 1 - 1) + 1) := fun hf => by
            have : 2 ^ 7 ≤ 2 ^ (7 * (f + 1 - 1) + 1) := Nat.pow_le_pow_right (by omega) (by omega)
            omega
          dsimp only
          refine ⟨fun _ => by omega, ?_, by simp, ?_⟩
          · show c.toNat < _
            rcases Nat.eq_zero_or_pos f with hf | hf
            · omega
            · have := hp7 hf; omega
          · show [c] = _
            have hcc : UInt8.ofNat c.toNat = c := by simp
            rcases f with _ | f
            · show [c] = [UInt8.ofNat c.toNat]; rw [hcc]
            · show [c] = vb (f + 1) c.toNat; rw [vb, if_pos (by omega), hcc]
/-- a beginning of what was written is too short -/
theorem rdv_cut (k : Nat) : ∀ (f i x n : Nat), k + 1 ≤ f → i + k = 9 → (0 < i → 0 < x) → x < 2 ^ (7 * k + 1) → n < (vb k x).length →
    rdv f i ((vb k x).take n) = (4, 0, 0) := by
  induction k with
  | zero =>
    intro f i x n hf hi h0 hx hn
    obtain ⟨f, rfl⟩ : ∃ f', f = f' + 1 := ⟨f - 1, by omega⟩
    obtain rfl : n = 0 := by simp [vb] at hn; omega
    rfl
  | succ k ih =>
    intro f i x n hf hi h0 hx hn
    obtain ⟨f, rfl⟩ : ∃ f', f = f' + 1 := ⟨f - 1, by omega⟩
    rcases n with _ | n
    · rfl
    · rw [vb] at hn ⊢
      split at hn
      · simp at hn
      · rename_i h
        rw [if_neg h]
        have hb := byte_nat (x % 128 + 128) (by omega)
        have hp : 2 ^ (7 * (k + 1) + 1) = 128 * 2 ^ (7 * k + 1) := by
          rw [show 7 * (k + 1) + 1 = (7 * k + 1) + 7 by omega, Nat.pow_add]; omega
        have hr := ih f (i + 1) (x / 128) n (by omega) (by omega) (fun _ => by omega) (by rw [hp] at hx; omega) (by simpa using hn)
        rw [List.take_succ_cons, rdv, hb, if_pos (by omega), hr]
        rfl

theorem rdE_in {b : List UInt8} {k : Nat} (h : k ≤ b.length) : rdE b (k : Int) = ((rdv 10 0 (b.drop k)).1 : Nat) := by
  unfold rdE; rw [if_neg (by omega)]; rfl
theorem enc_read (b : List UInt8) (n : Int) (s : List UInt8) (lo : -9223372036854775808 ≤ n) (hi : n ≤ 9223372036854775807) :
    rdE (b ++ (enc n ++ s)) (b.length : Int) = 0 ∧ rdN (b ++ (enc n ++ s)) (b.length : Int) = n ∧ rdT (b ++ (enc n ++ s)) (b.length : Int) = ((b.length + (enc n).length : Nat) : Int) := by
  have h := rdv_vb 9 10 0 (zig n) s (by omega) (by omega) (by omega) (by have := zig_lt lo hi; simpa using this)
  have hd : (b ++ (enc n ++ s)).drop b.length = enc n ++ s := by simp
  have he : rdE (b ++ (enc n ++ s)) (b.length : Int) = 0 := by
    rw [rdE_in (by simp), hd]
    unfold enc; rw [h]; rfl
  refine ⟨he, ?_, ?_⟩
  · unfold rdN; rw [if_pos he, Int.toNat_natCast, hd]; unfold enc; rw [h]; exact unzig_zig n
  · unfold rdT; rw [if_pos he, Int.toNat_natCast, hd]; unfold enc; rw [h]; simp
theorem rdE_ok {b : List UInt8} {a : Int} (h : rdE b a = 0) : 0 ≤ a ∧ a ≤ b.length ∧ (rdv 10 0 (b.drop a.toNat)).1 = 0 := by
  unfold rdE at h
  split at h
  · omega
  · exact ⟨by omega, by omega, by omega⟩
theorem read_bound {b : List UInt8} {a : Int} (h : rdE b a = 0) :
    -9223372036854775808 ≤ rdN b a ∧ rdN b a ≤ 9223372036854775807 ∧ a < rdT b a ∧ rdT b a ≤ b.length := by
  obtain ⟨h1, h2, h3⟩ := rdE_ok h
  obtain ⟨_, r2, r3, r4⟩ := vb_rdv 10 0 (b.drop a.toNat) rfl (by omega) h3
  have hk : 0 < (rdv 10 0 (b.drop a.toNat)).2.2 := by
    rcases Nat.eq_zero_or_pos (rdv 10 0 (b.drop a.toNat)).2.2 with h0 | h0
    · rw [h0] at r4; exact absurd r4.symm (vb_ne _ _)
    · exact h0
  have hv := unzig_lo (v := (rdv 10 0 (b.drop a.toNat)).2.1) (by simpa using r2)
  rw [List.length_drop] at r3
  unfold rdN rdT
  rw [if_pos h, if_pos h]
  exact ⟨hv.1, hv.2, by omega, by omega⟩
theorem read_enc {b : List UInt8} {a : Int} (h : rdE b a = 0) : b.take (rdT b a).toNat = b.take a.toNat ++ enc (rdN b a) := by
  obtain ⟨h1, h2, h3⟩ := rdE_ok h
  obtain ⟨_, r2, r3, r4⟩ := vb_rdv 10 0 (b.drop a.toNat) rfl (by omega) h3
  have e1 : enc (rdN b a) = (b.drop a.toNat).take (rdv 10 0 (b.drop a.toNat)).2.2 := by
    unfold rdN enc; rw [if_pos h, zig_unzig, r4]
  rw [e1]
  unfold rdT; rw [if_pos h]
  rw [show (a + ((rdv 10 0 (b.drop a.toNat)).2.2 : Nat)).toNat = a.toNat + (rdv 10 0 (b.drop a.toNat)).2.2 by omega, List.take_add]
theorem cut_short (n : Int) (k : Nat) (lo : -9223372036854775808 ≤ n) (hi : n ≤ 9223372036854775807) (h : k < (enc n).length) : rdE ((enc n).take k) 0 = 4 := by
  have hr := rdv_cut 9 10 0 (zig n) k (by omega) (by omega) (by omega) (by have := zig_lt lo hi; simpa using this) h
  have := rdE_in (b := (enc n).take k) (k := 0) (by omega)
  rw [show ((0 : Nat) : Int) = 0 from rfl] at this
  rw [this, List.drop_zero]
  unfold enc; rw [hr]; rfl
theorem rdE_cases (b : List UInt8) (a : Int) : rdE b a = 0 ∨ rdE b a = 2 ∨ rdE b a = 3 ∨ rdE b a = 4 := by
  have h : ∀ (f i : Nat) (s : List UInt8), (rdv f i s).1 = 0 ∨ (rdv f i s).1 = 3 ∨ (rdv f i s).1 = 4 := by
    intro f
    induction f with
    | zero => intro i s; simp [rdv]
    | succ f ih =>
      intro i s
      rcases s with _ | ⟨c, s⟩
      · simp [rdv]
      · rw [rdv]
        split
        · split
          · simp
          · exact ih _ _
        · split <;> simp
  unfold rdE
  split
  · omega
  · have := h 10 0 (b.drop a.toNat); omega

/-- the state of the loop that reads: x is the number of the first i digits -/
def comb (x i : Nat) (r : Nat × Nat × Nat) : Nat × Nat × Nat := if r.1 = 0 then (0, x + 128 ^ i * r.2.1, i + r.2.2) else (r.1, 0, 0)
theorem comb_start (r : Nat × Nat × Nat) (h : r.1 ≠ 0 → r.2 = (0, 0)) : comb 0 0 r = r := by
  obtain ⟨e, v, k⟩ := r
  unfold comb; split
  · rename_i h0; simp at h0 ⊢; omega
  · rename_i h0; simp at h0 h ⊢; have := h h0; simp [this]
theorem comb_next (x i f : Nat) (c : UInt8) (s : List UInt8) (h : 128 ≤ c.toNat) : comb x i (rdv (f + 1) i (c :: s)) = comb (x + 128 ^ i * (c.toNat - 128)) (i + 1) (rdv f (i + 1) s) := by
  rw [rdv, if_pos h]
  by_cases h0 : (rdv f (i + 1) s).1 = 0
  · rw [if_pos h0]
    simp only [comb, h0, if_true, Nat.pow_succ, Nat.mul_add, Prod.mk.injEq, true_and]
    constructor
    · rw [Nat.mul_assoc (128 ^ i) 128]; omega
    · omega
  · rw [if_neg h0]
    simp only [comb, h0, if_false]
end Go.Proofs.YtfjiikcbcoohdaaDoor
