/-
  The plain laws of layer 5: Hex and Unhex are inverse; different hashes stay different; bytes that differ within four that follow one another have different checksums. Conditions: none; no program in sight.
-/
import Derived.Test.YthjmdfimnbmbfaaCrcMath
namespace Go.Proofs.Ythjmdfimnbmbfaa
open Go.RowKit
set_option linter.unusedVariables false

/-! ### Hex and Unhex -/
theorem hexVal_dig (d : Nat) (h : d < 16) : hexVal (hexDig d) = some d := by
  have k : ∀ d : Fin 16, hexVal (hexDig d.val) = some d.val := by decide
  exact k ⟨d, h⟩
theorem hexDig_val (c : UInt8) (d : Nat) (h : hexVal c = some d) : hexDig d = c := by
  unfold hexVal at h
  apply UInt8.toNat_inj.1
  split at h
  · injection h; subst d
    unfold hexDig; rw [if_pos (by omega), UInt8.toNat_ofNat']; omega
  · split at h
    · injection h; subst d
      unfold hexDig; rw [if_neg (by omega), UInt8.toNat_ofNat']; omega
    · cases h
theorem hv_hexL (j : Nat) : ∀ x y, (hexL j x).foldl hvStep (some y) = some (y * 16 ^ j + x % 16 ^ j) := by
  induction j with
  | zero => intro x y; simp [hexL, Nat.mod_one]
  | succ j ih =>
    intro x y
    have hs : hvStep (some y) (hexDig (x / 16 ^ j % 16)) = some (16 * y + x / 16 ^ j % 16) := by
      simp [hvStep, hexVal_dig _ (Nat.mod_lt _ (by omega : 0 < 16))]
    rw [hexL, List.foldl_cons, hs, ih]
    congr 1
    rw [Nat.mod_pow_succ, Nat.pow_succ, Nat.add_mul, Nat.mul_comm (16 ^ j) 16, ← Nat.mul_assoc, Nat.mul_comm y 16, Nat.mul_comm (16 ^ j) (x / 16 ^ j % 16)]
    omega
theorem unhex_hex (n : Int) : unhex (hex n) = some (low62 n) := by
  have h := low62_lt n
  have h1 : hvs (hex n) = some (low62 n) := by
    unfold hvs hex; rw [hv_hexL, Nat.mod_eq_of_lt (Nat.lt_trans h (by decide))]; simp
  unfold unhex
  rw [if_pos (show (hex n).length = 16 from hexL_length 16 _), h1, Option.filter, if_pos]
  simpa using h
theorem hexL_hv (l : List UInt8) : ∀ x y, l.foldl hvStep (some y) = some x → hexL l.length x = l := by
  induction l with
  | nil => intro x y _; rfl
  | cons c l ih =>
    intro x y h
    rw [List.foldl_cons] at h
    rcases hc : hexVal c with _ | d
    · simp [hvStep, hc, hvFold_none] at h
    · have hd := hexVal_lt hc
      have hs : hvStep (some y) c = some (16 * y + d) := by simp [hvStep, hc]
      rw [hs] at h
      have hb := hvFold_ge l _ _ h
      have hq : x / 16 ^ l.length = 16 * y + d := Nat.div_eq_of_lt_le hb.1 hb.2
      rw [List.length_cons, hexL, ih x _ h, hq, show (16 * y + d) % 16 = d by omega, hexDig_val c d hc]
theorem hex_unhex (l : List UInt8) (k : Nat) (h : unhex l = some k) : hex (k : Int) = l := by
  unfold unhex at h
  split at h
  · rename_i h16
    rw [Option.filter_eq_some_iff] at h
    have h1 := h.1
    have h2 : k < 4611686018427387904 := by simpa using h.2
    have h3 := hexL_hv l k 0 h1
    have h4 : low62 (k : Int) = k := by unfold low62; omega
    unfold hex
    rw [h4, ← h16, h3]
  · cases h

/-! ### the hash -/
theorem mul_back (z : Nat) (h : z < 4611686018427387904) : z * 1099511628211 % 4611686018427387904 * 1051115900582139259 % 4611686018427387904 = z := by
  rw [Nat.mod_mul_mod, Nat.mul_assoc, ← Nat.mul_mod_mod]
  rw [show 1099511628211 * 1051115900582139259 % 4611686018427387904 = 1 by decide +kernel, Nat.mul_one, Nat.mod_eq_of_lt h]
theorem hstep_inj {x y : Nat} {c d : UInt8} (hx : x < 4611686018427387904) (hy : y < 4611686018427387904) (h : hstep x c = hstep y d) : x ^^^ c.toNat = y ^^^ d.toNat := by
  have h1 : x ^^^ c.toNat < 4611686018427387904 := Nat.xor_lt_two_pow (n := 62) hx (by have := c.toNat_lt; omega)
  have h2 : y ^^^ d.toNat < 4611686018427387904 := Nat.xor_lt_two_pow (n := 62) hy (by have := d.toNat_lt; omega)
  unfold hstep at h
  rw [← mul_back _ h1, h, mul_back _ h2]
theorem hfold_inj (l : List UInt8) : ∀ x y, x < 4611686018427387904 → y < 4611686018427387904 → l.foldl hstep x = l.foldl hstep y → x = y := by
  induction l with
  | nil => intro x y _ _ h; exact h
  | cons c l ih =>
    intro x y hx hy h
    rw [List.foldl_cons, List.foldl_cons] at h
    exact xor_inj (hstep_inj hx hy (ih _ _ (hstep_lt _ _) (hstep_lt _ _) h))
theorem more_iff (g h : Int) (l : List UInt8) : more g l = more h l ↔ low62 g = low62 h := by
  constructor
  · intro e; exact hfold_inj l _ _ (low62_lt g) (low62_lt h) e
  · intro e; unfold more; rw [e]
theorem hfold_lt (l : List UInt8) : ∀ x, x < 4611686018427387904 → l.foldl hstep x < 4611686018427387904 := by
  induction l with
  | nil => intro x h; exact h
  | cons c l ih => intro x h; rw [List.foldl_cons]; exact ih _ (hstep_lt _ _)
theorem hash_one (p s : List UInt8) (c d : UInt8) (h : hash (p ++ c :: s) = hash (p ++ d :: s)) : c = d := by
  unfold hash more at h
  rw [List.foldl_append, List.foldl_append, List.foldl_cons, List.foldl_cons] at h
  have h0 := hfold_lt p _ (low62_lt 860922984064492325)
  have h1 := hstep_inj h0 h0 (hfold_inj s _ _ (hstep_lt _ _) (hstep_lt _ _) h)
  rw [Nat.xor_comm, Nat.xor_comm _ d.toNat] at h1
  exact UInt8.toNat_inj.1 (xor_inj h1)

/-! ### bytes that are changed -/
theorem bitL_get (l : List UInt8) : ∀ i, (bitL l)[i]? = (l[i / 8]?).bind fun c => (bitsOf 8 c.toNat)[i % 8]? := by
  induction l with
  | nil => intro i; simp [bitL]
  | cons c l ih =>
    intro i
    have e : bitL (c :: l) = bitsOf 8 c.toNat ++ bitL l := by simp [bitL]
    rw [e]
    by_cases hi : i < 8
    · rw [List.getElem?_append_left (by rw [bitsOf_length]; exact hi), show i / 8 = 0 by omega, show i % 8 = i by omega]; rfl
    · rw [List.getElem?_append_right (by rw [bitsOf_length]; omega), bitsOf_length, ih, show i / 8 = (i - 8) / 8 + 1 by omega, List.getElem?_cons_succ, show (i - 8) % 8 = i % 8 by omega]
theorem crc_burst4 (a b : List UInt8) (k : Nat) (hl : a.length = b.length) (hd : ∀ i, ¬ (k ≤ i ∧ i < k + 4) → a[i]? = b[i]?) (h : crc a = crc b) : a = b := by
  refine crc_burst a b (8 * k) hl (fun i hi => ?_) h
  rw [bitL_get, bitL_get, hd (i / 8) (by omega)]

/-- the bytes after the first i rounds of 'changed' -/
def chg (b : List UInt8) (at_ : Int) (x : List UInt8) : Nat → List UInt8
  | 0 => b
  | i+1 => if 0 ≤ at_ ∧ at_ < b.length ∧ (i : Int) < b.length - at_ then (chg b at_ x i).set (at_.toNat + i) ((chg b at_ x i).getD (at_.toNat + i) 0 ^^^ x.getD i 0) else chg b at_ x i
theorem chg_length (b : List UInt8) (at_ : Int) (x : List UInt8) (i : Nat) : (chg b at_ x i).length = b.length := by
  induction i with
  | zero => rfl
  | succ i ih => rw [chg]; split <;> simp [ih]
theorem chg_far (b : List UInt8) (at_ : Int) (x : List UInt8) (i j : Nat) (h : ¬ (at_.toNat ≤ j ∧ j < at_.toNat + i)) : (chg b at_ x i)[j]? = b[j]? := by
  induction i with
  | zero => rfl
  | succ i ih =>
    rw [chg]; split
    · rw [List.getElem?_set_ne (by omega)]; exact ih (by omega)
    · exact ih (by omega)
theorem chg_burst (b : List UInt8) (at_ : Int) (x : List UInt8) : crc b = crc (chg b at_ x 4) ↔ b = chg b at_ x 4 := by
  constructor
  · intro h
    exact crc_burst4 b _ at_.toNat (chg_length b at_ x 4).symm (fun i hi => (chg_far b at_ x 4 i hi).symm) h
  · intro h; rw [← h]
theorem set_getD_self (l : List UInt8) (k : Nat) : l.set k (l.getD k 0) = l := by
  by_cases hk : k < l.length
  · rw [show l.getD k 0 = l[k] by simp [List.getD, hk], List.set_getElem_self]
  · exact List.set_eq_of_length_le (by omega)
theorem chg_tail (b : List UInt8) (at_ : Int) (x : UInt8) (i : Nat) : chg b at_ [x, 0, 0, 0] (i + 1) = chg b at_ [x, 0, 0, 0] 1 := by
  induction i with
  | zero => rfl
  | succ i ih =>
    rw [chg]; split
    · have hx : ([x, 0, 0, 0] : List UInt8).getD (i + 1) 0 = 0 := by
        rcases i with _ | _ | _ | i <;> simp
      rw [hx, UInt8.xor_zero, ih]
      exact set_getD_self _ _
    · exact ih
theorem chg_hash (b : List UInt8) (at_ : Int) (x : UInt8) : hash b = hash (chg b at_ [x, 0, 0, 0] 4) ↔ b = chg b at_ [x, 0, 0, 0] 4 := by
  constructor
  · rw [chg_tail b at_ x 3]
    intro h
    rw [chg] at h ⊢
    split at h
    · rename_i hc
      rw [if_pos hc]
      have hk : at_.toNat < b.length := by omega
      simp only [Nat.add_zero, chg] at h ⊢
      generalize at_.toNat = k at *
      have hg : b.getD k 0 = b[k] := by simp [List.getD, hk]
      rw [hg] at h ⊢
      have hb : b = b.take k ++ b[k] :: b.drop (k + 1) := by
        rw [← List.drop_eq_getElem_cons hk, List.take_append_drop]
      have hs : b.set k (b[k] ^^^ x) = b.take k ++ (b[k] ^^^ x) :: b.drop (k + 1) := by rw [List.set_eq_take_append_cons_drop, if_pos hk]
      have hx : ([x, 0, 0, 0] : List UInt8).getD 0 0 = x := rfl
      rw [hx] at h ⊢
      have h1 : hash (b.take k ++ b[k] :: b.drop (k + 1)) = hash (b.take k ++ (b[k] ^^^ x) :: b.drop (k + 1)) := by rw [← hb, ← hs]; exact h
      rw [← hash_one _ _ _ _ h1, List.set_getElem_self]
    · rename_i hc
      rw [if_neg hc]; rfl
  · intro h; rw [← h]
end Go.Proofs.Ythjmdfimnbmbfaa
