/-
  The plain functions of layer 4 (wire): numbers as bytes, read and written, and their laws. Conditions: none; no program in sight.
  Plain lemmas of layer 4: the bit operations of the reader and the writer of numbers, and the state of the reading loop. Conditions: none; no program in sight.
-/
import Derived.WalkKit
import Derived.Laws.DeepNot64
namespace Go.Proofs.YtcomeidcmcegfaaGreatDoor
open Go.RowKit
set_option linter.unusedVariables false
def zig (n : Int) : Nat := if 0 ≤ n then (2 * n).toNat else (-2 * n - 1).toNat
def unzig (v : Nat) : Int := if v % 2 = 0 then ((v / 2 : Nat) : Int) else -((v / 2 : Nat) : Int) - 1
theorem unzig_zig (n : Int) : unzig (zig n) = n := by
 unfold unzig zig; split <;> split <;> omega
theorem zig_unzig (v : Nat) : zig (unzig v) = v := by
 unfold unzig zig; split <;> split <;> omega
theorem zig_lt {n : Int} (lo : -9223372036854775808 ≤ n) (hi : n ≤ 9223372036854775807) : zig n < 18446744073709551616 := by
 unfold zig; split <;> omega
theorem unzig_lo {v : Nat} (h : v < 18446744073709551616) : -9223372036854775808 ≤ unzig v ∧ unzig v ≤ 9223372036854775807 := by
 unfold unzig; split <;> omega
def vb : Nat → Nat → List UInt8
 | 0, x => [UInt8.ofNat x]
 | k+1, x => if x < 128 then [UInt8.ofNat x] else UInt8.ofNat (x % 128 + 128) :: vb k (x / 128)
def enc (n : Int) : List UInt8 := vb 9 (zig n)
theorem vb_ne (k x : Nat) : vb k x ≠ [] := by
 cases k with
 | zero => simp [vb]
 | succ k => rw [vb]; split <;> simp
theorem vb_length (k x : Nat) : (vb k x).length ≤ k + 1 := by
 induction k generalizing x with
 | zero => simp [vb]
 | succ k ih => rw [vb]; split <;> simp; exact ih _
theorem enc_length (n : Int) : 1 ≤ (enc n).length ∧ (enc n).length ≤ 10 := by
 have h1 := vb_length 9 (zig n)
 have h2 := List.length_pos_iff.2 (vb_ne 9 (zig n))
 exact ⟨h2, h1⟩
def rdv : Nat → Nat → List UInt8 → Nat × Nat × Nat
 | 0, _, _ => (3, 0, 0)
 | _+1, _, [] => (4, 0, 0)
 | f+1, i, c :: s =>
  if 128 ≤ c.toNat then
   if (rdv f (i + 1) s).1 = 0 then (0, c.toNat - 128 + 128 * (rdv f (i + 1) s).2.1, (rdv f (i + 1) s).2.2 + 1) else ((rdv f (i + 1) s).1, 0, 0)
  else if (c.toNat = 0 ∧ 0 < i) ∨ (i = 9 ∧ 1 < c.toNat) then (3, 0, 0) else (0, c.toNat, 1)
def rdE (b : List UInt8) (at_ : Int) : Int := if at_ < 0 ∨ (b.length : Int) < at_ then 2 else ((rdv 10 0 (b.drop at_.toNat)).1 : Nat)
def rdN (b : List UInt8) (at_ : Int) : Int := if rdE b at_ = 0 then unzig (rdv 10 0 (b.drop at_.toNat)).2.1 else 0
def rdT (b : List UInt8) (at_ : Int) : Int := if rdE b at_ = 0 then at_ + ((rdv 10 0 (b.drop at_.toNat)).2.2 : Nat) else 0
theorem byte_nat (x : Nat) (h : x < 256) : (UInt8.ofNat x).toNat = x := by rw [UInt8.toNat_ofNat']; omega
theorem rdv_vb (k : Nat) : ∀ (f i x : Nat) (s : List UInt8), k + 1 ≤ f → i + k = 9 → (0 < i → 0 < x) → x < 2 ^ (7 * k + 1) →
 rdv f i (vb k x ++ s) = (0, x, (vb k x).length) := by
 induction k with
 | zero =>
  intro f i x s hf hi h0 hx
  obtain ⟨f, rfl⟩ : ∃ f', f = f' + 1 := ⟨f - 1, by omega⟩
  have hx' : x < 2 := by simpa using hx
  have hb := byte_nat x (by omega)
  rw [vb, List.singleton_append, rdv, hb, if_neg (by omega), if_neg (by omega)]
  rfl
 | succ k ih =>
  intro f i x s hf hi h0 hx
  obtain ⟨f, rfl⟩ : ∃ f', f = f' + 1 := ⟨f - 1, by omega⟩
  rw [vb]
  split
  ·rename_i h
   have hb := byte_nat x (by omega)
   rw [List.singleton_append, rdv, hb, if_neg (by omega), if_neg (by omega)]
   rfl
  ·rename_i h
   have hb := byte_nat (x % 128 + 128) (by omega)
   have hp : 2 ^ (7 * (k + 1) + 1) = 128 * 2 ^ (7 * k + 1) := by
    rw [show 7 * (k + 1) + 1 = (7 * k + 1) + 7 by omega, Nat.pow_add]; omega
   have hr := ih f (i + 1) (x / 128) s (by omega) (by omega) (fun _ => by omega) (by rw [hp] at hx; omega)
   rw [List.cons_append, rdv, hb, if_pos (by omega), hr, if_pos rfl]
   simp only [List.length_cons, Prod.mk.injEq, true_and, and_true]
   omega
theorem vb_rdv : ∀ (f i : Nat) (s : List UInt8), i + f = 10 → 0 < f → (rdv f i s).1 = 0 →
 (0 < i → 0 < (rdv f i s).2.1) ∧ (rdv f i s).2.1 < 2 ^ (7 * (f - 1) + 1) ∧ (rdv f i s).2.2 ≤ s.length ∧ s.take (rdv f i s).2.2 = vb (f - 1) (rdv f i s).2.1 := by
 intro f
 induction f with
 | zero => intro i s _ h0; omega
 | succ f ih =>
  intro i s hi _ h
  rcases s with _ | ⟨c, s⟩
  ·simp [rdv] at h
  ·have hc := c.toNat_lt
   rw [rdv] at h ⊢
   by_cases h1 : 128 ≤ c.toNat
   ·rw [if_pos h1] at h ⊢
    by_cases h2 : (rdv f (i + 1) s).1 = 0
    ·rw [if_pos h2]
     have hf : 0 < f := by
      rcases Nat.eq_zero_or_pos f with h3 | h3
      ·subst h3; simp [rdv] at h2
      ·exact h3
     obtain ⟨r1, r2, r3, r4⟩ := ih (i + 1) s (by omega) hf h2
     have r1' := r1 (by omega)
     generalize (rdv f (i + 1) s).2.1 = v at *
     generalize (rdv f (i + 1) s).2.2 = k at *
     have hp : 2 ^ (7 * (f + 1 - 1) + 1) = 128 * 2 ^ (7 * (f - 1) + 1) := by
      rw [show 7 * (f + 1 - 1) + 1 = (7 * (f - 1) + 1) + 7 by omega, Nat.pow_add]; omega
     dsimp only
     refine ⟨fun _ => by omega, by rw [hp]; omega, by simp only [List.length_cons]; omega, ?_⟩
     rw [List.take_succ_cons, r4, show f + 1 - 1 = (f - 1) + 1 by omega, vb, if_neg (by omega)]
     congr 1
     ·apply UInt8.toNat_inj.1
      rw [byte_nat _ (by omega)]; omega
     ·congr 1; omega
    ·rw [if_neg h2] at h; exact absurd h h2
   ·rw [if_neg h1] at h ⊢
    by_cases h2 : (c.toNat = 0 ∧ 0 < i) ∨ (i = 9 ∧ 1 < c.toNat)
    ·rw [if_pos h2] at h; simp at h
    ·rw [if_neg h2]
     have hp : 2 ≤ 2 ^ (7 * (f + 1 - 1) + 1) := by rw [Nat.pow_succ]; have := Nat.two_pow_pos (7 * (f + 1 - 1)); omega
     have hp7 : 0 < f → 128 ≤ 2 ^ (7 * (f + 1 - 1) + 1) := fun hf => by
      have : 2 ^ 7 ≤ 2 ^ (7 * (f + 1 - 1) + 1) := Nat.pow_le_pow_right (by omega) (by omega)
      omega
     dsimp only
     refine ⟨fun _ => by omega, ?_, by simp, ?_⟩
     ·show c.toNat < _
      rcases Nat.eq_zero_or_pos f with hf | hf
      ·omega
      ·have := hp7 hf; omega
     ·show [c] = _
      have hcc : UInt8.ofNat c.toNat = c := by simp
      rcases f with _ | f
      ·show [c] = [UInt8.ofNat c.toNat]; rw [hcc]
      ·show [c] = vb (f + 1) c.toNat; rw [vb, if_pos (by omega), hcc]
theorem rdv_cut (k : Nat) : ∀ (f i x n : Nat), k + 1 ≤ f → i + k = 9 → (0 < i → 0 < x) → x < 2 ^ (7 * k + 1) → n < (vb k x).length →
 rdv f i ((vb k x).take n) = (4, 0, 0) := by
 induction k with
 | zero =>
  intro f i x n hf hi h0 hx hn
  obtain ⟨f, rfl⟩ : ∃ f', f = f' + 1 := ⟨f - 1, by omega⟩
  obtain rfl : n = 0 := by simp [vb] at hn; omega
  rfl
 | succ k ih =>
  intro f i x n hf hi h0 hx hn
  obtain ⟨f, rfl⟩ : ∃ f', f = f' + 1 := ⟨f - 1, by omega⟩
  rcases n with _ | n
  ·rfl
  ·rw [vb] at hn ⊢
   split at hn
   ·simp at hn
   ·rename_i h
    rw [if_neg h]
    have hb := byte_nat (x % 128 + 128) (by omega)
    have hp : 2 ^ (7 * (k + 1) + 1) = 128 * 2 ^ (7 * k + 1) := by
     rw [show 7 * (k + 1) + 1 = (7 * k + 1) + 7 by omega, Nat.pow_add]; omega
    have hr := ih f (i + 1) (x / 128) n (by omega) (by omega) (fun _ => by omega) (by rw [hp] at hx; omega) (by simpa using hn)
    rw [List.take_succ_cons, rdv, hb, if_pos (by omega), hr]
    rfl
theorem rdE_in {b : List UInt8} {k : Nat} (h : k ≤ b.length) : rdE b (k : Int) = ((rdv 10 0 (b.drop k)).1 : Nat) := by
 unfold rdE; rw [if_neg (by omega)]; rfl
theorem enc_read (b : List UInt8) (n : Int) (s : List UInt8) (lo : -9223372036854775808 ≤ n) (hi : n ≤ 9223372036854775807) :
 rdE (b ++ (enc n ++ s)) (b.length : Int) = 0 ∧ rdN (b ++ (enc n ++ s)) (b.length : Int) = n ∧ rdT (b ++ (enc n ++ s)) (b.length : Int) = ((b.length + (enc n).length : Nat) : Int) := by
 have h := rdv_vb 9 10 0 (zig n) s (by omega) (by omega) (by omega) (by have := zig_lt lo hi; simpa using this)
 have hd : (b ++ (enc n ++ s)).drop b.length = enc n ++ s := by simp
 have he : rdE (b ++ (enc n ++ s)) (b.length : Int) = 0 := by
  rw [rdE_in (by simp), hd]
  unfold enc; rw [h]; rfl
 refine ⟨he, ?_, ?_⟩
 ·unfold rdN; rw [if_pos he, Int.toNat_natCast, hd]; unfold enc; rw [h]; exact unzig_zig n
 ·unfold rdT; rw [if_pos he, Int.toNat_natCast, hd]; unfold enc; rw [h]; simp
theorem rdE_ok {b : List UInt8} {a : Int} (h : rdE b a = 0) : 0 ≤ a ∧ a ≤ b.length ∧ (rdv 10 0 (b.drop a.toNat)).1 = 0 := by
 unfold rdE at h
 split at h
 ·omega
 ·exact ⟨by omega, by omega, by omega⟩
theorem read_bound {b : List UInt8} {a : Int} (h : rdE b a = 0) :
 -9223372036854775808 ≤ rdN b a ∧ rdN b a ≤ 9223372036854775807 ∧ a < rdT b a ∧ rdT b a ≤ b.length := by
 obtain ⟨h1, h2, h3⟩ := rdE_ok h
 obtain ⟨_, r2, r3, r4⟩ := vb_rdv 10 0 (b.drop a.toNat) rfl (by omega) h3
 have hk : 0 < (rdv 10 0 (b.drop a.toNat)).2.2 := by
  rcases Nat.eq_zero_or_pos (rdv 10 0 (b.drop a.toNat)).2.2 with h0 | h0
  ·rw [h0] at r4; exact absurd r4.symm (vb_ne _ _)
  ·exact h0
 have hv := unzig_lo (v := (rdv 10 0 (b.drop a.toNat)).2.1) (by simpa using r2)
 rw [List.length_drop] at r3
 unfold rdN rdT
 rw [if_pos h, if_pos h]
 exact ⟨hv.1, hv.2, by omega, by omega⟩
theorem read_enc {b : List UInt8} {a : Int} (h : rdE b a = 0) : b.take (rdT b a).toNat = b.take a.toNat ++ enc (rdN b a) := by
 obtain ⟨h1, h2, h3⟩ := rdE_ok h
 obtain ⟨_, r2, r3, r4⟩ := vb_rdv 10 0 (b.drop a.toNat) rfl (by omega) h3
 have e1 : enc (rdN b a) = (b.drop a.toNat).take (rdv 10 0 (b.drop a.toNat)).2.2 := by
  unfold rdN enc; rw [if_pos h, zig_unzig, r4]
 rw [e1]
 unfold rdT; rw [if_pos h]
 rw [show (a + ((rdv 10 0 (b.drop a.toNat)).2.2 : Nat)).toNat = a.toNat + (rdv 10 0 (b.drop a.toNat)).2.2 by omega, List.take_add]
def comb (x i : Nat) (r : Nat × Nat × Nat) : Nat × Nat × Nat := if r.1 = 0 then (0, x + 128 ^ i * r.2.1, i + r.2.2) else (r.1, 0, 0)
theorem comb_start (r : Nat × Nat × Nat) (h : r.1 ≠ 0 → r.2 = (0, 0)) : comb 0 0 r = r := by
 obtain ⟨e, v, k⟩ := r
 unfold comb; split
 ·rename_i h0; simp at h0 ⊢; omega
 ·rename_i h0; simp at h0 h ⊢; have := h h0; simp [this]
theorem comb_next (x i f : Nat) (c : UInt8) (s : List UInt8) (h : 128 ≤ c.toNat) : comb x i (rdv (f + 1) i (c :: s)) = comb (x + 128 ^ i * (c.toNat - 128)) (i + 1) (rdv f (i + 1) s) := by
 rw [rdv, if_pos h]
 by_cases h0 : (rdv f (i + 1) s).1 = 0
 ·rw [if_pos h0]
  simp only [comb, h0, if_true, Nat.pow_succ, Nat.mul_add, Prod.mk.injEq, true_and]
  constructor
  ·rw [Nat.mul_assoc (128 ^ i) 128]; omega
  ·omega
 ·rw [if_neg h0]
  simp only [comb, h0, if_false]
end Go.Proofs.YtcomeidcmcegfaaGreatDoor
namespace Go.Proofs.YtcomeidcmcegfaaGreatDoor
open Go.RowKit
set_option linter.unusedVariables false
theorem rdv_err : ∀ (f i : Nat) (s : List UInt8), (rdv f i s).1 ≠ 0 → (rdv f i s).2 = (0, 0) := by
 intro f
 induction f with
 | zero => intro i s _; rfl
 | succ f ih =>
  intro i s h
  rcases s with _ | ⟨c, s⟩
  ·rfl
  ·rw [rdv] at h ⊢
   split at h
   ·rename_i h1
    rw [if_pos h1]
    split at h
    ·exact absurd rfl h
    ·rename_i h2; rw [if_neg h2]
   ·rename_i h1
    rw [if_neg h1]
    split at h
    ·rename_i h2; rw [if_pos h2]
    ·exact absurd rfl h
def Reads (b : List UInt8) (k j v : Nat) : Prop := j ≤ 10 ∧ k + j ≤ b.length ∧ (j = 10 ∨ v < 128 ^ j) ∧ comb v j (rdv (10 - j) j (b.drop (k + j))) = rdv 10 0 (b.drop k)
def nextX (v d j : Nat) : Nat := v ||| (d * 2 ^ (7 * j)) % 18446744073709551616
theorem pow128 (j : Nat) : 128 ^ j = 2 ^ (7 * j) := by rw [Nat.pow_mul]
theorem pow128_le {j : Nat} (h : j ≤ 9) : 128 ^ j ≤ 9223372036854775808 := by
 have : 128 ^ j ≤ 128 ^ 9 := Nat.pow_le_pow_right (by omega) h
 simpa using this
theorem nextX_eq (v d j : Nat) (hv : v < 128 ^ j) (hj : j ≤ 9) (hd : d < 128) (h9 : j = 9 → d ≤ 1) : nextX v d j = v + 128 ^ j * d := by
 have hp := pow128_le hj
 have hlt : d * 2 ^ (7 * j) < 18446744073709551616 := by
  rw [← pow128]
  rcases Nat.lt_or_ge j 9 with h | h
  ·have h8 : 128 ^ j ≤ 128 ^ 8 := Nat.pow_le_pow_right (by omega) (by omega)
   have : d * 128 ^ j ≤ 127 * 128 ^ 8 := Nat.mul_le_mul (by omega) h8
   omega
  ·obtain rfl : j = 9 := by omega
   have : d * 128 ^ 9 ≤ 1 * 128 ^ 9 := Nat.mul_le_mul_right _ (h9 rfl)
   omega
 unfold nextX
 rw [Nat.mod_eq_of_lt hlt, Nat.or_comm, nat_join (7 * j) _ _ (by simp) (by rw [← pow128]; exact hv), pow128, Nat.mul_comm d]
 omega
theorem nextX_lt (v d j : Nat) (hv : v < 18446744073709551616) : nextX v d j < 18446744073709551616 :=
 Nat.or_lt_two_pow (n := 64) (by omega) (by have := Nat.mod_lt (d * 2 ^ (7 * j)) (show 0 < 18446744073709551616 by omega); omega)
theorem comb_bad (v i i' : Nat) (s : List UInt8) : comb v i (rdv 0 i' s) = (3, 0, 0) := rfl
theorem comb_err (v i e : Nat) (h : e ≠ 0) : comb v i (e, 0, 0) = (e, 0, 0) := by unfold comb; rw [if_neg h]
theorem Reads.start (b : List UInt8) (k : Nat) (h : k ≤ b.length) : Reads b k 0 0 :=
 ⟨by omega, by omega, by simp, by rw [Nat.sub_zero, Nat.add_zero]; exact comb_start _ (rdv_err _ _ _)⟩
theorem Reads.lt {b : List UInt8} {k j v : Nat} (h : Reads b k j v) (hj : j < 10) : v < 18446744073709551616 := by
 rcases h.2.2.1 with h1 | h1
 ·omega
 ·have := pow128_le (show j ≤ 9 by omega); omega
theorem Reads.at {b : List UInt8} {k j v : Nat} (h : Reads b k j v) (hj : j < 10) (hin : k + j < b.length) :
 comb v j (rdv (9 - j + 1) j (b[k + j] :: b.drop (k + j + 1))) = rdv 10 0 (b.drop k) := by
 rw [← List.drop_eq_getElem_cons hin, show 9 - j + 1 = 10 - j by omega]; exact h.2.2.2
theorem Reads.next {b : List UInt8} {k j v ch d : Nat} (h : Reads b k j v) (hj : j < 10) (hin : k + j < b.length) (hc : b[k + j].toNat = ch) (h8 : 128 ≤ ch) (hd : d = ch % 128) :
 Reads b k (j + 1) (nextX v d j) := by
 have hlt := b[k + j].toNat_lt
 have he := h.at hj hin
 rw [comb_next _ _ _ _ _ (by omega)] at he
 rcases Nat.lt_or_ge j 9 with h9 | h9
 ·have hv : v < 128 ^ j := by rcases h.2.2.1 with h1 | h1 <;> omega
  have e := nextX_eq v d j hv (by omega) (by omega) (by omega)
  refine ⟨by omega, by omega, .inr ?_, ?_⟩
  ·rw [e, Nat.pow_succ]
   have : 128 ^ j * d ≤ 128 ^ j * 127 := Nat.mul_le_mul_left _ (by omega)
   omega
  ·rw [e, show d = b[k + j].toNat - 128 by omega, show 10 - (j + 1) = 9 - j by omega, show k + (j + 1) = k + j + 1 by omega]
   exact he
 ·obtain rfl : j = 9 := by omega
  refine ⟨by omega, by omega, .inl rfl, ?_⟩
  rw [show 10 - (9 + 1) = 0 from rfl, comb_bad]
  rw [show 9 - 9 = 0 from rfl, comb_bad] at he
  exact he
theorem rd_of {b : List UInt8} {k e n t : Nat} (hk : k ≤ b.length) (h : rdv 10 0 (b.drop k) = (e, n, t)) (he : e ≠ 0) : rdE b (k : Int) = (e : Nat) ∧ rdN b (k : Int) = 0 ∧ rdT b (k : Int) = 0 := by
 have h1 : rdE b (k : Int) = (e : Nat) := by rw [rdE_in hk, h]
 refine ⟨h1, ?_, ?_⟩
 ·unfold rdN; rw [h1, if_neg (by omega)]
 ·unfold rdT; rw [h1, if_neg (by omega)]
theorem rd_of0 {b : List UInt8} {k n t : Nat} (hk : k ≤ b.length) (h : rdv 10 0 (b.drop k) = (0, n, t)) : rdE b (k : Int) = 0 ∧ rdN b (k : Int) = unzig n ∧ rdT b (k : Int) = (k : Int) + (t : Nat) := by
 have h1 : rdE b (k : Int) = 0 := by rw [rdE_in hk, h]; rfl
 refine ⟨h1, ?_, ?_⟩
 ·unfold rdN; rw [h1, if_pos rfl, Int.toNat_natCast, h]
 ·unfold rdT; rw [h1, if_pos rfl, Int.toNat_natCast, h]
theorem Reads.bad {b : List UInt8} {k j v ch : Nat} (h : Reads b k j v) (hj : j < 10) (hin : k + j < b.length) (hc : b[k + j].toNat = ch) (h8 : ch < 128) (hb : (ch = 0 ∧ 0 < j) ∨ (j = 9 ∧ 1 < ch)) :
 rdE b (k : Int) = 3 ∧ rdN b (k : Int) = 0 ∧ rdT b (k : Int) = 0 := by
 have he := h.at hj hin
 rw [rdv, if_neg (by omega), if_pos (by rw [hc]; exact hb), comb_err _ _ _ (by omega)] at he
 exact rd_of (e := 3) (by omega) he.symm (by omega)
theorem Reads.ok {b : List UInt8} {k j v ch : Nat} (h : Reads b k j v) (hj : j < 10) (hin : k + j < b.length) (hc : b[k + j].toNat = ch) (h8 : ch < 128) (hb : ¬ ((ch = 0 ∧ 0 < j) ∨ (j = 9 ∧ 1 < ch))) :
 rdE b (k : Int) = 0 ∧ rdN b (k : Int) = unzig (nextX v ch j) ∧ rdT b (k : Int) = (k : Int) + (j : Int) + 1 := by
 have he := h.at hj hin
 rw [rdv, if_neg (by omega), if_neg (by rw [hc]; exact hb)] at he
 have hv : v < 128 ^ j := by rcases h.2.2.1 with h1 | h1 <;> omega
 rw [comb, if_pos rfl, hc] at he
 have e := nextX_eq v ch j hv (by omega) (by omega) (by omega)
 rw [e]
 have := rd_of0 (n := v + 128 ^ j * ch) (t := j + 1) (by omega) he.symm
 refine ⟨this.1, this.2.1, ?_⟩
 rw [this.2.2, Int.natCast_add]; omega
theorem Reads.short {b : List UInt8} {k j v : Nat} (h : Reads b k j v) (hj : j < 10) (hin : ¬ k + j < b.length) :
 rdE b (k : Int) = 4 ∧ rdN b (k : Int) = 0 ∧ rdT b (k : Int) = 0 := by
 have he := h.2.2.2
 have hk := h.2.1
 rw [List.drop_eq_nil_of_le (by omega), show 10 - j = 9 - j + 1 by omega, rdv, comb_err _ _ _ (by omega)] at he
 exact rd_of (e := 4) (by omega) he.symm (by omega)
theorem Reads.long {b : List UInt8} {k v : Nat} (h : Reads b k 10 v) : rdE b (k : Int) = 3 ∧ rdN b (k : Int) = 0 ∧ rdT b (k : Int) = 0 :=
 rd_of (e := 3) (by have := h.2.1; omega) (h.2.2.2.symm.trans (comb_bad _ _ _ _)) (by omega)
theorem rd_range {b : List UInt8} {a : Int} (h : a < 0 ∨ (b.length : Int) < a) : rdE b a = 2 ∧ rdN b a = 0 ∧ rdT b a = 0 := by
 have h1 : rdE b a = 2 := by unfold rdE; rw [if_pos h]
 refine ⟨h1, ?_, ?_⟩
 ·unfold rdN; rw [h1, if_neg (by omega)]
 ·unfold rdT; rw [h1, if_neg (by omega)]
theorem w8_low7 (ch : Nat) (h : ch < 256) : bits BinOp.and IntKind.u8 (ch : Int) 127 = ((ch % 128 : Nat) : Int) := by
 rw [show (127 : Int) = ((127 : Nat) : Int) from rfl, u8_and_nat _ _ h (by omega), nat_mask7]
theorem w64_small (d : Nat) (h : d < 256) : IntKind.u64.wrap (d : Int) = (d : Int) := by
 rw [IntKind.wrap_u64]; omega
theorem w64_next (v d j : Nat) (hv : v < 18446744073709551616) : bits BinOp.or IntKind.u64 (v : Int) (IntKind.u64.wrap ((d : Int) * 2 ^ (7 * j))) = ((nextX v d j : Nat) : Int) := by
 have e : ((d : Int) * 2 ^ (7 * j)) = ((d * 2 ^ (7 * j) : Nat) : Int) := by simp
 rw [IntKind.wrap_u64, e, show (((d * 2 ^ (7 * j) : Nat) : Int) % 18446744073709551616) = (((d * 2 ^ (7 * j)) % 18446744073709551616 : Nat) : Int) by omega]
 exact u64_or_nat _ _ hv (Nat.mod_lt _ (by omega))
theorem i64_xor0 (a : Nat) (ha : a < 9223372036854775808) : bits .xor .i64 (a : Int) 0 = (a : Int) := by
 show IntKind.i64.wrap ((BitVec.ofInt 64 (a : Int) ^^^ BitVec.ofInt 64 0).toNat : Int) = _
 have h1 : BitVec.ofInt 64 0 = 0#64 := by decide
 rw [h1, BitVec.xor_zero, ofInt_u64 a (by omega)]
 simp [IntKind.wrap, IntKind.bits, IntKind.signed]
 omega
theorem i64_xor1 (a : Nat) (ha : a < 9223372036854775808) : bits .xor .i64 (a : Int) (-1) = -1 - (a : Int) := by
 rw [← i64_not a ha]
 show IntKind.i64.wrap ((BitVec.ofInt 64 (a : Int) ^^^ BitVec.ofInt 64 (-1)).toNat : Int) = IntKind.i64.wrap ((BitVec.ofInt 64 (-1) ^^^ BitVec.ofInt 64 (a : Int)).toNat : Int)
 rw [BitVec.xor_comm]
theorem w64_low1 (x : Nat) (h : x < 18446744073709551616) : bits BinOp.and IntKind.u64 (x : Int) 1 = ((x % 2 : Nat) : Int) := by
 rw [show (1 : Int) = ((1 : Nat) : Int) from rfl, u64_and_nat _ _ h (by omega), nat_mask1]
theorem w64_unzig (x : Nat) (h : x < 18446744073709551616) : bits BinOp.xor IntKind.i64 ((x : Int) / 2) (wrap64 (-wrap64 (bits BinOp.and IntKind.u64 (x : Int) 1))) = unzig x := by
 rw [w64_low1 x h, show ((x : Int) / 2) = ((x / 2 : Nat) : Int) by omega]
 unfold unzig
 rcases Nat.mod_two_eq_zero_or_one x with h2 | h2
 ·rw [h2, if_pos rfl, IntWalk.wrap64_in ((0 : Nat) : Int) ⟨by omega, by omega⟩, IntWalk.wrap64_in (-((0 : Nat) : Int)) ⟨by omega, by omega⟩]
  exact i64_xor0 _ (by omega)
 ·rw [h2, if_neg (by omega), IntWalk.wrap64_in ((1 : Nat) : Int) ⟨by omega, by omega⟩, IntWalk.wrap64_in (-((1 : Nat) : Int)) ⟨by omega, by omega⟩]
  have := i64_xor1 (x / 2) (by omega)
  rw [show (-((x / 2 : Nat) : Int) - 1) = -1 - ((x / 2 : Nat) : Int) by omega, ← this]
  rfl
theorem unzig0 : bits BinOp.xor IntKind.i64 (wrap64 (bits BinOp.or IntKind.u64 0 (IntKind.u64.wrap (IntKind.u64.wrap (bits BinOp.and IntKind.u8 0 127))) / 2)) (wrap64 (-wrap64 (bits BinOp.and IntKind.u64 (bits BinOp.or IntKind.u64 0 (IntKind.u64.wrap (IntKind.u64.wrap (bits BinOp.and IntKind.u8 0 127)))) 1))) = unzig (nextX 0 0 0) := by
 have h0 : bits BinOp.and IntKind.u8 0 127 = ((0 : Nat) : Int) := u8_and_nat 0 127 (by omega) (by omega)
 have h : bits BinOp.or IntKind.u64 0 ((0 : Nat) : Int) = ((0 : Nat) : Int) := u64_or_nat 0 0 (by omega) (by omega)
 rw [h0, w64_small 0 (by omega), w64_small 0 (by omega), h, IntWalk.wrap64_in (((0 : Nat) : Int) / 2) ⟨by omega, by omega⟩, w64_unzig 0 (by omega), show nextX 0 0 0 = 0 by decide]
end Go.Proofs.YtcomeidcmcegfaaGreatDoor
