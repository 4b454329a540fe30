/-
  Plain laws of layer 6: inverted bits are noticed; frames one after the other, cut anywhere. Conditions: none; no program in sight.
-/
import Derived.Test.YthjmdfimnbmbfaaFramePlain
import Derived.Test.YthjmdfimnbmbfaaSumsMath
namespace Go.Proofs.Ythjmdfimnbmbfaa
open Go.RowKit
set_option linter.unusedVariables false

/-! ### inverted bits -/
/-- the bytes behind j rounds: bit number at_ + i is inverted where bit i of the pattern is set -/
def flips (s : List UInt8) (at_ pat : Nat) : Nat → List UInt8
  | 0 => s
  | j+1 => if pat / 2 ^ j % 2 = 1 then (flips s at_ pat j).set ((at_ + j) / 8) ((flips s at_ pat j).getD ((at_ + j) / 8) 0 ^^^ UInt8.ofNat (2 ^ ((at_ + j) % 8))) else flips s at_ pat j
theorem flips_length (s : List UInt8) (at_ pat j : Nat) : (flips s at_ pat j).length = s.length := by
  induction j with
  | zero => rfl
  | succ j ih => rw [flips]; split <;> simp [ih]
theorem bitsOf_get (k : Nat) : ∀ (c i : Nat), (bitsOf k c)[i]? = if i < k then some (c / 2 ^ i % 2) else none := by
  induction k with
  | zero => intro c i; simp [bitsOf]
  | succ k ih =>
    intro c i
    rcases i with _ | i
    · simp [bitsOf]
    · rw [bitsOf, List.getElem?_cons_succ, ih, Nat.div_div_eq_div_mul, Nat.pow_succ, Nat.mul_comm 2]
      simp
theorem xor_bit (c r i : Nat) : (c ^^^ 2 ^ r) / 2 ^ i % 2 = if i = r then 1 - c / 2 ^ i % 2 else c / 2 ^ i % 2 := by
  have ht : ∀ x : Nat, x / 2 ^ i % 2 = (x.testBit i).toNat := fun x => by rw [Nat.testBit_eq_decide_div_mod_eq]; rcases Nat.mod_two_eq_zero_or_one (x / 2 ^ i) with h | h <;> simp [h]
  rw [ht, ht, Nat.testBit_xor, Nat.testBit_two_pow]
  by_cases h : i = r
  · subst h; simp; cases c.testBit i <;> rfl
  · have : ¬ r = i := fun e => h e.symm
    simp [h, this]
/-- one byte with one bit inverted -/
theorem bit_set (s : List UInt8) (q r : Nat) (hr : r < 8) (hq : q < s.length) (t : Nat) :
    (bitL (s.set q (s.getD q 0 ^^^ UInt8.ofNat (2 ^ r))))[t]? = if t = 8 * q + r then (bitL s)[t]?.map (fun b => 1 - b) else (bitL s)[t]? := by
  rw [bitL_get, bitL_get, List.getElem?_set]
  have h2 : (UInt8.ofNat (2 ^ r)).toNat = 2 ^ r := by
    have : 2 ^ r ≤ 2 ^ 7 := Nat.pow_le_pow_right (by omega) (by omega)
    rw [UInt8.toNat_ofNat', Nat.mod_eq_of_lt (by omega)]
  by_cases hq' : q = t / 8
  · subst hq'
    rw [if_pos rfl, if_pos hq, List.getElem?_eq_getElem hq]
    have hg : s.getD (t / 8) 0 = s[t / 8] := by simp [List.getD, hq]
    simp only [Option.bind_some, hg, UInt8.toNat_xor, h2, bitsOf_get, xor_bit]
    have h8 : t % 8 < 8 := Nat.mod_lt _ (by omega)
    simp only [if_pos h8, Option.map_some]
    by_cases hr' : t % 8 = r
    · rw [if_pos hr', if_pos (by omega)]
    · rw [if_neg hr', if_neg (by omega)]
  · rw [if_neg hq', if_neg (by omega)]
theorem flips_bits (s : List UInt8) (at_ pat : Nat) : ∀ (j t : Nat), (∀ i, i < j → pat / 2 ^ i % 2 = 1 → (at_ + i) / 8 < s.length) →
    (bitL (flips s at_ pat j))[t]? = if at_ ≤ t ∧ t < at_ + j ∧ pat / 2 ^ (t - at_) % 2 = 1 then (bitL s)[t]?.map (fun b => 1 - b) else (bitL s)[t]? := by
  intro j
  induction j with
  | zero => intro t _; rw [if_neg (by omega)]; rfl
  | succ j ih =>
    intro t h
    have ih' := ih t (fun i hi => h i (by omega))
    rw [flips]
    by_cases hp : pat / 2 ^ j % 2 = 1
    · rw [if_pos hp, bit_set _ _ _ (Nat.mod_lt _ (by omega)) (by rw [flips_length]; exact h j (by omega) hp), ih']
      by_cases ht : t = at_ + j
      · subst ht
        rw [if_pos (by omega), if_neg (by omega), if_pos ⟨by omega, by omega, by rw [Nat.add_sub_cancel_left]; exact hp⟩]
      · rw [if_neg (by omega)]
        by_cases hc : at_ ≤ t ∧ t < at_ + j ∧ pat / 2 ^ (t - at_) % 2 = 1
        · rw [if_pos hc, if_pos ⟨hc.1, by omega, hc.2.2⟩]
        · rw [if_neg hc, if_neg (fun h2 => hc ⟨h2.1, by omega, h2.2.2⟩)]
    · rw [if_neg hp, ih']
      by_cases ht : t = at_ + j
      · subst ht
        rw [if_neg (by omega), if_neg (by rw [Nat.add_sub_cancel_left]; omega)]
      · by_cases hc : at_ ≤ t ∧ t < at_ + j ∧ pat / 2 ^ (t - at_) % 2 = 1
        · rw [if_pos hc, if_pos ⟨hc.1, by omega, hc.2.2⟩]
        · rw [if_neg hc, if_neg (fun h2 => hc ⟨h2.1, by omega, h2.2.2⟩)]
theorem flips_far (s : List UInt8) (at_ pat : Nat) : ∀ (j q : Nat), (∀ i, i < j → pat / 2 ^ i % 2 = 1 → (at_ + i) / 8 ≠ q) → (flips s at_ pat j)[q]? = s[q]? := by
  intro j
  induction j with
  | zero => intro q _; rfl
  | succ j ih =>
    intro q h
    have ih' := ih q (fun i hi => h i (by omega))
    rw [flips]
    by_cases hp : pat / 2 ^ j % 2 = 1
    · rw [if_pos hp, List.getElem?_set_ne (h j (by omega) hp)]; exact ih'
    · rw [if_neg hp]; exact ih'
theorem some_bit (n : Nat) : ∀ (pat : Nat), pat < 2 ^ n → pat ≠ 0 → ∃ i, i < n ∧ pat / 2 ^ i % 2 = 1 := by
  induction n with
  | zero => intro pat h h0; omega
  | succ n ih =>
    intro pat h h0
    rcases Nat.mod_two_eq_zero_or_one pat with h2 | h2
    · obtain ⟨i, hi, hb⟩ := ih (pat / 2) (by rw [Nat.pow_succ] at h; omega) (by omega)
      exact ⟨i + 1, by omega, by rw [Nat.pow_succ, Nat.mul_comm, ← Nat.div_div_eq_div_mul]; exact hb⟩
    · exact ⟨0, by omega, by simpa using h2⟩
theorem flips_ne (s : List UInt8) (at_ pat : Nat) (hp : pat < 4294967296) (h0 : pat ≠ 0) (h : ∀ i, i < 32 → pat / 2 ^ i % 2 = 1 → (at_ + i) / 8 < s.length) : flips s at_ pat 32 ≠ s := by
  intro he
  obtain ⟨i, hi, hb⟩ := some_bit 32 pat hp h0
  have h1 := flips_bits s at_ pat 32 (at_ + i) h
  rw [he, if_pos ⟨by omega, by omega, by rw [Nat.add_sub_cancel_left]; exact hb⟩] at h1
  have hl : at_ + i < (bitL s).length := by rw [bitL_length]; have := h i hi hb; omega
  rw [List.getElem?_eq_getElem hl, Option.map_some] at h1
  injection h1 with h1
  have := bitL_le s _ (List.getElem_mem hl)
  omega
/-- bits inverted among 32 consecutive ones, none of them of the length, are noticed -/
theorem op_burst (kind : Int) (c : List UInt8) (at_ pat : Nat) (h1 : 1 ≤ kind) (h2 : kind ≤ 255) (h3 : c.length ≤ 1048576) (hp : pat < 4294967296) (h0 : pat ≠ 0)
    (h : ∀ i, i < 32 → pat / 2 ^ i % 2 = 1 → (at_ + i) / 8 < (fseal kind c).length ∧ ¬ (2 ≤ (at_ + i) / 8 ∧ (at_ + i) / 8 < (fseal kind c).length - 4 - c.length)) : opE (flips (fseal kind c) at_ pat 32) 0 ≠ 0 := by
  intro he
  have hs := fseal_length kind c
  have hlx := flips_length (fseal kind c) at_ pat 32
  have hne := flips_ne (fseal kind c) at_ pat hp h0 (fun i hi hb => (h i hi hb).1)
  have hmid : ∀ q, 2 ≤ q → q < 2 + (enc c.length).length → (flips (fseal kind c) at_ pat 32)[q]? = (fseal kind c)[q]? := fun q q1 q2 => flips_far _ _ _ _ _ (fun i hi hb e => by have := (h i hi hb).2; omega)
  have hout : ∀ i, ¬ (at_ ≤ i ∧ i < at_ + 32) → (bitL (flips (fseal kind c) at_ pat 32))[i]? = (bitL (fseal kind c))[i]? := fun i hi => by
    rw [flips_bits _ _ _ _ _ (fun i hi hb => (h i hi hb).1), if_neg (fun h => hi ⟨h.1, h.2.1⟩)]
  generalize hX : flips (fseal kind c) at_ pat 32 = x at *
  obtain ⟨k, T, N, hk, hf, h8⟩ := op_inv he
  obtain rfl : k = 0 := by omega
  have e0 : fseal kind c = [76, UInt8.ofNat kind.toNat] ++ (enc c.length ++ (c ++ tail4 (crc (fmsg kind c)))) := by simp [fseal, fmsg, fhead]
  have ex : x = x.take 2 ++ (enc c.length ++ x.drop (2 + (enc c.length).length)) := by
    have hm : (x.drop 2).take (enc c.length).length = enc c.length := by
      apply List.ext_getElem?; intro i
      by_cases hi : i < (enc c.length).length
      · rw [List.getElem?_take_of_lt hi, List.getElem?_drop, hmid _ (by omega) (by omega), e0, List.getElem?_append_right (by simp), List.getElem?_append_left (by simpa using hi)]
        simp
      · rw [List.getElem?_eq_none (by simp; omega), List.getElem?_eq_none (by omega)]
    conv => lhs; rw [← List.take_append_drop 2 x, ← List.take_append_drop (enc c.length).length (x.drop 2), hm, List.drop_drop]
  obtain ⟨r1, r2, r3⟩ := enc_read (x.take 2) (c.length : Int) (x.drop (2 + (enc c.length).length)) (by omega) (by omega)
  have h2l : (x.take 2).length = 2 := by simp; omega
  rw [← ex, h2l] at r2 r3
  have hN : N = c.length := by have := hf.n; rw [r2] at this; omega
  have hT : T = 2 + (enc c.length).length := by have := hf.t; rw [r3] at this; omega
  subst hN hT
  rw [List.drop_zero, Nat.sub_zero] at h8
  have hxl : x.length = 2 + (enc c.length).length + c.length + 4 := by omega
  have e1 : x = x.take (2 + (enc c.length).length + c.length) ++ tail4 (crc (x.take (2 + (enc c.length).length + c.length))) := by
    have h4 : (x.drop (2 + (enc c.length).length + c.length)).take 4 = x.drop (2 + (enc c.length).length + c.length) := List.take_of_length_le (by simp; omega)
    rw [h4] at h8
    rw [← h8, List.take_append_drop]
  have := sealed_burst (x.take (2 + (enc c.length).length + c.length)) (fmsg kind c) at_ (by rw [fmsg_length]; simp; omega) (fun i hi => by rw [← e1]; exact hout i hi)
  apply hne
  rw [e1, this]; rfl

/-! ### frames one after the other -/
def flat (ps : List (Int × List UInt8)) : List UInt8 := ps.flatMap fun p => fseal p.1 p.2
/-- the frames that are complete among c bytes, and where they end -/
def whole : List (Int × List UInt8) → Nat → List (Int × List UInt8) × Nat
  | [], _ => ([], 0)
  | p :: ps, c => if (fseal p.1 p.2).length ≤ c then (p :: (whole ps (c - (fseal p.1 p.2).length)).1, (fseal p.1 p.2).length + (whole ps (c - (fseal p.1 p.2).length)).2) else ([], 0)
def Right1 (p : Int × List UInt8) : Prop := 1 ≤ p.1 ∧ p.1 ≤ 255 ∧ p.2.length ≤ 1048576
theorem all_cut : ∀ (ps : List (Int × List UInt8)) (l : List UInt8) (c f : Nat), (∀ p ∈ ps, Right1 p) → ps.length < f →
    allF (l ++ (flat ps).take c) f (l.length : Int) = ((whole ps c).1, (((l.length + (whole ps c).2 : Nat)) : Int)) := by
  intro ps
  induction ps with
  | nil =>
    intro l c f _ hf
    obtain ⟨f, rfl⟩ : ∃ f', f = f' + 1 := ⟨f - 1, by simp at hf; omega⟩
    have h0 : opE (l ++ (flat []).take c) (l.length : Int) = 4 := by unfold opE; rw [op_end (by simp [flat])]
    rw [allF, if_neg (by rw [h0]; omega)]
    rfl
  | cons p ps ih =>
    intro l c f hr hf
    obtain ⟨f, rfl⟩ : ∃ f', f = f' + 1 := ⟨f - 1, by simp at hf; omega⟩
    obtain ⟨r1, r2, r3⟩ := hr p (by simp)
    have ef : flat (p :: ps) = fseal p.1 p.2 ++ flat ps := by simp [flat]
    rw [ef, whole]
    by_cases hc : (fseal p.1 p.2).length ≤ c
    · rw [if_pos hc, List.take_append, List.take_of_length_le hc]
      have ho := op_seal l ((flat ps).take (c - (fseal p.1 p.2).length)) p.1 p.2 r1 r2 r3
      have ih' := ih (l ++ fseal p.1 p.2) (c - (fseal p.1 p.2).length) f (fun q hq => hr q (List.mem_cons_of_mem _ hq)) (by simp at hf; omega)
      rw [List.append_assoc] at ih'
      have hE : opE (l ++ (fseal p.1 p.2 ++ (flat ps).take (c - (fseal p.1 p.2).length))) (l.length : Int) = 0 := by unfold opE; rw [ho]
      rw [allF, if_pos hE]
      unfold opK opC opT
      rw [ho]
      simp only []
      rw [ih']
      simp only [List.length_append, Nat.add_assoc]
    · rw [if_neg hc, List.take_append_of_le_length (by omega)]
      have ho := op_cut l p.1 p.2 c r1 r2 r3 (by omega)
      have hE : opE (l ++ (fseal p.1 p.2).take c) (l.length : Int) = 4 := by unfold opE; rw [ho]
      rw [allF, if_neg (by rw [hE]; omega)]
      rfl
theorem flat_snoc (ps : List (Int × List UInt8)) (p : Int × List UInt8) : flat (ps ++ [p]) = flat ps ++ fseal p.1 p.2 := by simp [flat]
theorem whole_all : ∀ (ps : List (Int × List UInt8)) (c : Nat), (flat ps).length ≤ c → whole ps c = (ps, (flat ps).length) := by
  intro ps
  induction ps with
  | nil => intro c _; rfl
  | cons p ps ih =>
    intro c h
    have ef : flat (p :: ps) = fseal p.1 p.2 ++ flat ps := by simp [flat]
    rw [ef, List.length_append] at h
    rw [whole, if_pos (by omega), ih _ (by omega), ef, List.length_append]
theorem whole_snoc : ∀ (ps : List (Int × List UInt8)) (p : Int × List UInt8) (c : Nat), ¬ (flat (ps ++ [p])).length ≤ c → whole (ps ++ [p]) c = whole ps c := by
  intro ps
  induction ps with
  | nil =>
    intro p c h
    have : ¬ (fseal p.1 p.2).length ≤ c := by simpa [flat] using h
    show (if (fseal p.1 p.2).length ≤ c then _ else _) = _
    rw [if_neg this]; rfl
  | cons q ps ih =>
    intro p c h
    have ef : flat (q :: ps ++ [p]) = fseal q.1 q.2 ++ flat (ps ++ [p]) := by simp [flat]
    rw [ef, List.length_append] at h
    rw [List.cons_append, whole, whole]
    by_cases hc : (fseal q.1 q.2).length ≤ c
    · rw [if_pos hc, if_pos hc, ih p _ (by omega)]
    · rw [if_neg hc, if_neg hc]
end Go.Proofs.Ythjmdfimnbmbfaa
