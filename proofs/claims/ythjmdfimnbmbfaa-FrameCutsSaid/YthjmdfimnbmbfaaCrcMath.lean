/-
  The checksum tells bursts: bytes of one length that differ only among 32 consecutive bits have the same checksum only if they are equal. Conditions: none; no program in sight.
-/
import Derived.Test.YthjmdfimnbmbfaaSumsPlain
namespace Go.Proofs.Ythjmdfimnbmbfaa
open Go.RowKit
set_option linter.unusedVariables false

theorem xor_cancel (a b : Nat) : a ^^^ b ^^^ b = a := by rw [Nat.xor_assoc, Nat.xor_self, Nat.xor_zero]
theorem xor_zero_eq {a b : Nat} (h : a ^^^ b = 0) : a = b := by
  have := xor_cancel a b
  rw [h, Nat.zero_xor] at this
  exact this.symm
theorem xor_inj {a b c : Nat} (h : a ^^^ c = b ^^^ c) : a = b := by
  rw [← xor_cancel a c, h, xor_cancel]
theorem xor_mod2 (a b : Nat) : (a ^^^ b) % 2 = (a % 2 + b % 2) % 2 := by
  have h := @Nat.xor_mod_two_pow a b 1
  simp only [Nat.pow_one] at h
  rw [h]
  rcases Nat.mod_two_eq_zero_or_one a with h1 | h1 <;> rcases Nat.mod_two_eq_zero_or_one b with h2 | h2 <;> rw [h1, h2] <;> rfl
theorem xor_four (a b p : Nat) : a ^^^ p ^^^ (b ^^^ p) = a ^^^ b := by
  apply Nat.eq_of_testBit_eq; intro i
  simp only [Nat.testBit_xor]
  cases a.testBit i <;> cases b.testBit i <;> cases p.testBit i <;> rfl
theorem xor_swap (a b c d : Nat) : a ^^^ b ^^^ (c ^^^ d) = a ^^^ c ^^^ (b ^^^ d) := by
  apply Nat.eq_of_testBit_eq; intro i
  simp only [Nat.testBit_xor]
  cases a.testBit i <;> cases b.testBit i <;> cases c.testBit i <;> cases d.testBit i <;> rfl
theorem xor_three (a b p : Nat) : a ^^^ b ^^^ p = a ^^^ p ^^^ b := by
  rw [Nat.xor_assoc, Nat.xor_comm b p, ← Nat.xor_assoc]

theorem cstep_xor (x y : Nat) : cstep (x ^^^ y) = cstep x ^^^ cstep y := by
  have h := xor_mod2 x y
  unfold cstep
  rw [Nat.xor_div_two]
  rcases Nat.mod_two_eq_zero_or_one x with h1 | h1 <;> rcases Nat.mod_two_eq_zero_or_one y with h2 | h2 <;> rw [h, h1, h2]
  · simp
  · simp [Nat.xor_assoc]
  · simp [xor_three]
  · simp [xor_four]
theorem cstep_two (m : Nat) : cstep (2 * m) = m := by
  unfold cstep; rw [if_neg (by omega)]; omega
theorem cstep_low {y z : Nat} (hy : y < 4294967296) (h : cstep y = z) (hz : z < 2147483648) : y = 2 * z := by
  unfold cstep at h
  split at h
  · exfalso
    have h1 : (y / 2 ^^^ 3988292384) / 2 ^ 31 = y / 2 / 2 ^ 31 ^^^ 3988292384 / 2 ^ 31 := Nat.xor_div_two_pow
    rw [show y / 2 / 2 ^ 31 = 0 by omega, show 3988292384 / 2 ^ 31 = 1 by omega, h] at h1
    have h2 : z / 2 ^ 31 = 0 := by omega
    rw [h2] at h1
    exact absurd h1 (by decide)
  · omega

/-! ### bit by bit -/
def cbit (x : Nat) (b : Nat) : Nat := cstep (x ^^^ b)
def bitsOf : Nat → Nat → List Nat
  | 0, _ => []
  | k+1, c => c % 2 :: bitsOf k (c / 2)
def bitL (l : List UInt8) : List Nat := l.flatMap fun c => bitsOf 8 c.toNat

theorem cstepN_cstep (k x : Nat) : cstepN k (cstep x) = cstepN (k + 1) x := by
  induction k with
  | zero => rfl
  | succ k ih => show cstep _ = cstep _; rw [ih]
theorem bits_step (k : Nat) : ∀ x c, c < 2 ^ k → (bitsOf k c).foldl cbit x = cstepN k (x ^^^ c) := by
  induction k with
  | zero => intro x c h; have : c = 0 := by omega
            subst this; simp [bitsOf, cstepN]
  | succ k ih =>
    intro x c h
    rw [bitsOf, List.foldl_cons, ih _ _ (by rw [Nat.pow_succ] at h; omega)]
    unfold cbit
    rw [← cstepN_cstep]
    congr 1
    have e : c = c % 2 ^^^ 2 * (c / 2) := by
      have h1 : (c % 2 ^^^ 2 * (c / 2)) / 2 = c / 2 := by
        rw [Nat.xor_div_two, show c % 2 / 2 = 0 by omega, show 2 * (c / 2) / 2 = c / 2 by omega, Nat.zero_xor]
      have h2 : (c % 2 ^^^ 2 * (c / 2)) % 2 = c % 2 := by
        rw [xor_mod2]; omega
      omega
    conv => rhs; rw [e, ← Nat.xor_assoc, cstep_xor, cstep_two]
theorem cbyte_bits (x : Nat) (c : UInt8) : cbyte x c = (bitsOf 8 c.toNat).foldl cbit x := (bits_step 8 x c.toNat (by have := c.toNat_lt; omega)).symm
theorem fold_bits (l : List UInt8) : ∀ x, l.foldl cbyte x = (bitL l).foldl cbit x := by
  induction l with
  | nil => intro x; rfl
  | cons c l ih => intro x; rw [List.foldl_cons, cbyte_bits, bitL, List.flatMap_cons, List.foldl_append]; exact ih _
theorem bitsOf_le (k c b : Nat) (h : b ∈ bitsOf k c) : b < 2 := by
  induction k generalizing c with
  | zero => simp [bitsOf] at h
  | succ k ih =>
    rw [bitsOf, List.mem_cons] at h
    rcases h with h | h
    · omega
    · exact ih _ h
theorem bitL_le (l : List UInt8) : ∀ b ∈ bitL l, b < 2 := by
  intro b hb
  obtain ⟨c, _, h⟩ := List.mem_flatMap.1 hb
  exact bitsOf_le _ _ _ h
theorem bitsOf_length (k c : Nat) : (bitsOf k c).length = k := by
  induction k generalizing c with
  | zero => rfl
  | succ k ih => simp [bitsOf, ih]
theorem bitL_length (l : List UInt8) : (bitL l).length = 8 * l.length := by
  induction l with
  | nil => rfl
  | cons c l ih => rw [bitL, List.flatMap_cons, List.length_append, bitsOf_length]; have : (List.flatMap (fun c => bitsOf 8 c.toNat) l).length = 8 * l.length := ih
                   rw [this, List.length_cons]; omega
theorem bitsOf_inj (k : Nat) : ∀ c d, c < 2 ^ k → d < 2 ^ k → bitsOf k c = bitsOf k d → c = d := by
  induction k with
  | zero => intro c d h1 h2 _; omega
  | succ k ih =>
    intro c d h1 h2 h
    rw [Nat.pow_succ] at h1 h2
    simp only [bitsOf, List.cons.injEq] at h
    have := ih _ _ (by omega) (by omega) h.2
    omega
theorem bitL_inj : ∀ (l m : List UInt8), l.length = m.length → bitL l = bitL m → l = m := by
  intro l
  induction l with
  | nil => intro m h _; exact (List.eq_nil_of_length_eq_zero h.symm).symm
  | cons c l ih =>
    intro m h hb
    rcases m with _ | ⟨d, m⟩
    · simp at h
    · simp only [bitL, List.flatMap_cons] at hb
      have h1 := (List.append_inj hb (by simp [bitsOf_length]))
      have h2 := bitsOf_inj 8 _ _ (by have := c.toNat_lt; omega) (by have := d.toNat_lt; omega) h1.1
      rw [UInt8.toNat_inj.1 h2, ih m (by simpa using h) h1.2]

/-- the difference of two strings of bits, as a number -/
def wOf : List Nat → List Nat → Nat
  | b :: u, d :: v => 2 * wOf u v ^^^ (b ^^^ d)
  | _, _ => 0
theorem wOf_lt : ∀ (u v : List Nat), (∀ b ∈ u, b < 2) → (∀ b ∈ v, b < 2) → wOf u v < 2 ^ u.length := by
  intro u
  induction u with
  | nil => intro v _ _; simp [wOf]
  | cons b u ih =>
    intro v hu hv
    rcases v with _ | ⟨d, v⟩
    · simp [wOf]; exact Nat.two_pow_pos _
    · have := ih v (fun x hx => hu x (List.mem_cons_of_mem _ hx)) (fun x hx => hv x (List.mem_cons_of_mem _ hx))
      rw [wOf, List.length_cons]
      refine Nat.xor_lt_two_pow (by rw [Nat.pow_succ]; omega) ?_
      refine Nat.xor_lt_two_pow ?_ ?_
      · have := hu b (List.mem_cons_self); rw [Nat.pow_succ]; have := Nat.two_pow_pos u.length; omega
      · have := hv d (List.mem_cons_self); rw [Nat.pow_succ]; have := Nat.two_pow_pos u.length; omega
theorem wOf_zero : ∀ (u v : List Nat), u.length = v.length → (∀ b ∈ u, b < 2) → (∀ b ∈ v, b < 2) → wOf u v = 0 → u = v := by
  intro u
  induction u with
  | nil => intro v h _ _ _; exact (List.eq_nil_of_length_eq_zero h.symm).symm
  | cons b u ih =>
    intro v h hu hv h0
    rcases v with _ | ⟨d, v⟩
    · simp at h
    · rw [wOf] at h0
      have h1 := xor_zero_eq h0
      have hb := hu b (List.mem_cons_self)
      have hd := hv d (List.mem_cons_self)
      have h2 : b ^^^ d < 2 := Nat.xor_lt_two_pow (n := 1) (by omega) (by omega)
      have h3 : b = d := xor_zero_eq (by omega)
      rw [h3, ih v (by simpa using h) (fun x hx => hu x (List.mem_cons_of_mem _ hx)) (fun x hx => hv x (List.mem_cons_of_mem _ hx)) (by omega)]
theorem cbit_lt {x b : Nat} (h : x < 4294967296) (hb : b < 2) : cbit x b < 4294967296 := cstep_lt (Nat.xor_lt_two_pow (n := 32) h (by omega))
theorem cbits_lt (u : List Nat) : ∀ x, x < 4294967296 → (∀ b ∈ u, b < 2) → u.foldl cbit x < 4294967296 := by
  induction u with
  | nil => intro x h _; exact h
  | cons b u ih => intro x h hu; exact ih _ (cbit_lt h (hu b (List.mem_cons_self))) (fun y hy => hu y (List.mem_cons_of_mem _ hy))
/-- two registers that meet again after at most 32 bits differed by the difference of the bits -/
theorem meet : ∀ (u v : List Nat) (x y : Nat), u.length = v.length → u.length ≤ 32 → (∀ b ∈ u, b < 2) → (∀ b ∈ v, b < 2) → x < 4294967296 → y < 4294967296 →
    u.foldl cbit x = v.foldl cbit y → x ^^^ y = wOf u v := by
  intro u
  induction u with
  | nil =>
    intro v x y h _ _ _ _ _ he
    have : v = [] := List.eq_nil_of_length_eq_zero h.symm
    subst this
    simp at he
    rw [he, Nat.xor_self]; rfl
  | cons b u ih =>
    intro v x y h h32 hu hv hx hy he
    rcases v with _ | ⟨d, v⟩
    · simp at h
    · have hb := hu b (List.mem_cons_self)
      have hd := hv d (List.mem_cons_self)
      have hu' : ∀ b ∈ u, b < 2 := fun y hy => hu y (List.mem_cons_of_mem _ hy)
      have hv' : ∀ b ∈ v, b < 2 := fun y hy => hv y (List.mem_cons_of_mem _ hy)
      rw [List.length_cons] at h32
      have h1 := ih v (cbit x b) (cbit y d) (by simpa using h) (by omega) hu' hv' (cbit_lt hx hb) (cbit_lt hy hd) he
      have h2 : wOf u v < 2147483648 := by
        have := wOf_lt u v hu' hv'
        have h3 : 2 ^ u.length ≤ 2 ^ 31 := Nat.pow_le_pow_right (by omega) (by omega)
        omega
      unfold cbit at h1
      rw [← cstep_xor, xor_swap] at h1
      have h4 := cstep_low (Nat.xor_lt_two_pow (n := 32) (Nat.xor_lt_two_pow (n := 32) hx hy) (Nat.xor_lt_two_pow (n := 32) (by omega) (by omega))) h1 h2
      rw [wOf, ← h4, xor_cancel]
theorem cbit_inj {x y b : Nat} (hx : x < 4294967296) (hy : y < 4294967296) (hb : b < 2) (h : cbit x b = cbit y b) : x = y := by
  have := meet [b] [b] x y rfl (by simp) (by simpa using hb) (by simpa using hb) hx hy h
  simp [wOf] at this
  exact xor_zero_eq this
theorem cbits_inj (u : List Nat) : ∀ x y, x < 4294967296 → y < 4294967296 → (∀ b ∈ u, b < 2) → u.foldl cbit x = u.foldl cbit y → x = y := by
  induction u with
  | nil => intro x y _ _ _ h; exact h
  | cons b u ih =>
    intro x y hx hy hu h
    have hb := hu b (List.mem_cons_self)
    exact cbit_inj hx hy hb (ih _ _ (cbit_lt hx hb) (cbit_lt hy hb) (fun y hy => hu y (List.mem_cons_of_mem _ hy)) h)
/-- strings of bits that agree before and after at most 32 of them, with one register at the end, are equal -/
theorem burst_bits (p u v s : List Nat) (x : Nat) (hx : x < 4294967296) (h : u.length = v.length) (h32 : u.length ≤ 32) (hp : ∀ b ∈ p, b < 2) (hu : ∀ b ∈ u, b < 2) (hv : ∀ b ∈ v, b < 2) (hs : ∀ b ∈ s, b < 2)
    (he : (p ++ (u ++ s)).foldl cbit x = (p ++ (v ++ s)).foldl cbit x) : u = v := by
  simp only [List.foldl_append] at he
  have h0 := cbits_lt p x hx hp
  have h1 := cbits_inj s _ _ (cbits_lt u _ h0 hu) (cbits_lt v _ h0 hv) hs he
  have h2 := meet u v _ _ h h32 hu hv h0 h0 h1
  rw [Nat.xor_self] at h2
  exact wOf_zero u v h hu hv h2.symm
theorem crc_creg {a b : List UInt8} (h : crc a = crc b) : creg a = creg b := xor_inj h
/-- bytes of one length whose bits agree outside 32 consecutive ones, with one checksum, are equal -/
theorem crc_burst (a b : List UInt8) (k : Nat) (hl : a.length = b.length) (hd : ∀ i, ¬ (k ≤ i ∧ i < k + 32) → (bitL a)[i]? = (bitL b)[i]?) (h : crc a = crc b) : a = b := by
  have h1 := crc_creg h
  unfold creg at h1
  rw [fold_bits, fold_bits] at h1
  have hlen : (bitL a).length = (bitL b).length := by rw [bitL_length, bitL_length, hl]
  have hp : (bitL a).take k = (bitL b).take k := by
    apply List.ext_getElem?; intro i
    by_cases hi : i < k
    · rw [List.getElem?_take_of_lt hi, List.getElem?_take_of_lt hi]; exact hd i (by omega)
    · rw [List.getElem?_eq_none (by simp; omega), List.getElem?_eq_none (by simp; omega)]
  have hs : ((bitL a).drop k).drop 32 = ((bitL b).drop k).drop 32 := by
    apply List.ext_getElem?; intro i
    simp only [List.getElem?_drop]
    exact hd _ (by omega)
  have ea : bitL a = (bitL a).take k ++ (((bitL a).drop k).take 32 ++ ((bitL a).drop k).drop 32) := by rw [List.take_append_drop, List.take_append_drop]
  have eb : bitL b = (bitL a).take k ++ (((bitL b).drop k).take 32 ++ ((bitL a).drop k).drop 32) := by rw [hp, hs, List.take_append_drop, List.take_append_drop]
  have h2 := h1
  rw [ea, eb] at h2
  have h3 := burst_bits _ _ _ _ _ (by omega) (by simp [hlen]) (by simp; omega) (fun b hb => bitL_le a b (List.mem_of_mem_take hb)) (fun b hb => bitL_le a b (List.mem_of_mem_drop (List.mem_of_mem_take hb)))
    (fun c hc => bitL_le b c (List.mem_of_mem_drop (List.mem_of_mem_take hc))) (fun b hb => bitL_le a b (List.mem_of_mem_drop (List.mem_of_mem_drop hb))) h2
  refine bitL_inj a b hl ?_
  rw [eb, ← h3]; exact ea
end Go.Proofs.Ythjmdfimnbmbfaa
