/-
  The plain functions of layer 5 (sums): the checksum, the hash, hexadecimal digits, with the bounds that the walks use. Conditions: none; no program in sight.
-/
import Derived.Laws.BitsAllLaws
import Derived.WalkKit
namespace Go.Proofs.Ythjmdfimnbmbfaa
open Go.RowKit
set_option linter.unusedVariables false

/-! ### Crc -/
def cstep (x : Nat) : Nat := if x % 2 = 1 then x / 2 ^^^ 3988292384 else x / 2
def cstepN : Nat → Nat → Nat
  | 0, x => x
  | k+1, x => cstep (cstepN k x)
def cbyte (x : Nat) (c : UInt8) : Nat := cstepN 8 (x ^^^ c.toNat)
def creg (l : List UInt8) : Nat := l.foldl cbyte 4294967295
def crc (l : List UInt8) : Nat := creg l ^^^ 4294967295

theorem cstep_lt {x : Nat} (h : x < 4294967296) : cstep x < 4294967296 := by
  unfold cstep; split
  · exact Nat.xor_lt_two_pow (n := 32) (by omega) (by omega)
  · omega
theorem cstepN_lt (k : Nat) {x : Nat} (h : x < 4294967296) : cstepN k x < 4294967296 := by
  induction k with
  | zero => exact h
  | succ k ih => exact cstep_lt ih
theorem cbyte_lt {x : Nat} (c : UInt8) (h : x < 4294967296) : cbyte x c < 4294967296 :=
  cstepN_lt 8 (Nat.xor_lt_two_pow (n := 32) (by omega) (by have := c.toNat_lt; omega))
theorem cfold_lt (l : List UInt8) {x : Nat} (h : x < 4294967296) : l.foldl cbyte x < 4294967296 := by
  induction l generalizing x with
  | nil => exact h
  | cons c l ih => exact ih (cbyte_lt c h)
theorem creg_lt (l : List UInt8) : creg l < 4294967296 := cfold_lt l (by omega)
theorem crc_lt (l : List UInt8) : crc l < 4294967296 := Nat.xor_lt_two_pow (n := 32) (creg_lt l) (by omega)
theorem creg_take (l : List UInt8) (k : Nat) (h : k < l.length) : creg (l.take (k + 1)) = cstepN 8 (creg (l.take k) ^^^ l[k].toNat) := by
  unfold creg; rw [List.take_succ_eq_append_getElem h, List.foldl_append]; rfl

theorem w32_byte (x : Nat) (c : UInt8) (h : x < 4294967296) : bits BinOp.xor IntKind.u32 (x : Int) ((c.toNat : Int) % 4294967296) = ((x ^^^ c.toNat : Nat) : Int) := by
  have := c.toNat_lt
  rw [Int.emod_eq_of_lt (by omega) (by omega), u32_xor_nat _ _ h (by omega)]
theorem w32_and1 (x : Nat) (h : x < 4294967296) : bits BinOp.and IntKind.u32 (x : Int) 1 = ((x % 2 : Nat) : Int) := by
  rw [show (1 : Int) = ((1 : Nat) : Int) from rfl, u32_and_nat _ _ h (by omega), nat_mask1]
theorem w32_odd (x : Nat) (h : x < 4294967296) (ht : ((x : Int) % 2 == 1) = true) : bits BinOp.xor IntKind.u32 ((x : Int) / 2) 3988292384 = ((cstep x : Nat) : Int) := by
  have ht' : x % 2 = 1 := by have := eq_of_beq ht; omega
  rw [show ((x : Int) / 2) = ((x / 2 : Nat) : Int) by omega, show (3988292384 : Int) = ((3988292384 : Nat) : Int) from rfl, u32_xor_nat _ _ (by omega) (by omega)]
  simp [cstep, ht']
theorem w32_even (x : Nat) (ht : ((x : Int) % 2 == 1) = false) : ((x : Int) / 2) = ((cstep x : Nat) : Int) := by
  have ht' : ¬ x % 2 = 1 := by have := ne_of_beq_false ht; omega
  simp [cstep, ht']
theorem w32_not (x : Nat) (h : x < 4294967296) : wrap64 (bits BinOp.xor IntKind.u32 IntKind.u32.max (x : Int)) = ((x ^^^ 4294967295 : Nat) : Int) := by
  have hx := Nat.xor_lt_two_pow (n := 32) h (show 4294967295 < 2 ^ 32 by omega)
  rw [show IntKind.u32.max = ((4294967295 : Nat) : Int) from rfl, u32_xor_nat _ _ (by omega) (by omega), Nat.xor_comm]
  exact IntWalk.wrap64_in _ ⟨by omega, by omega⟩
theorem w64_odd (x : Nat) (h : x < 4294967296) (ht : ((x : Int) % 2 == 1) = true) : bits BinOp.xor IntKind.u64 ((x : Int) / 2) 3988292384 = ((cstep x : Nat) : Int) := by
  have ht' : x % 2 = 1 := by have := eq_of_beq ht; omega
  rw [show ((x : Int) / 2) = ((x / 2 : Nat) : Int) by omega, show (3988292384 : Int) = ((3988292384 : Nat) : Int) from rfl, u64_xor_nat _ _ (by omega) (by omega)]
  simp [cstep, ht']

theorem w64_byte (x : Nat) (c : UInt8) (h : x < 4611686018427387904) : bits BinOp.xor IntKind.u64 (x : Int) (IntKind.u64.wrap (c.toNat : Int)) = ((x ^^^ c.toNat : Nat) : Int) := by
  have := c.toNat_lt
  rw [IntKind.wrap_u64, Int.emod_eq_of_lt (by omega) (by omega), u64_xor_nat _ _ (by omega) (by omega)]
theorem w64_not (x : Nat) (h : x < 4294967296) : wrap64 (bits BinOp.xor IntKind.u64 (x : Int) 4294967295) = ((x ^^^ 4294967295 : Nat) : Int) := by
  have hx := Nat.xor_lt_two_pow (n := 32) h (show 4294967295 < 2 ^ 32 by omega)
  rw [show (4294967295 : Int) = ((4294967295 : Nat) : Int) from rfl, u64_xor_nat _ _ (by omega) (by omega)]
  exact IntWalk.wrap64_in _ ⟨by omega, by omega⟩

/-! ### Hash -/
def hstep (x : Nat) (c : UInt8) : Nat := ((x ^^^ c.toNat) * 1099511628211) % 4611686018427387904
def low62 (h : Int) : Nat := (h % 4611686018427387904).toNat
def more (h : Int) (l : List UInt8) : Nat := l.foldl hstep (low62 h)
def hash (l : List UInt8) : Nat := more 860922984064492325 l

theorem nat_mask62_ (x : Nat) : x &&& 4611686018427387903 = x % 4611686018427387904 := Nat.and_two_pow_sub_one_eq_mod x 62
theorem w64_low (h : Int) : bits BinOp.and IntKind.u64 (IntKind.u64.wrap h) 4611686018427387903 = ((low62 h : Nat) : Int) := by
  rw [IntKind.wrap_u64]
  have h1 : (h % 18446744073709551616) = (((h % 18446744073709551616).toNat : Nat) : Int) := by omega
  rw [h1, show (4611686018427387903 : Int) = ((4611686018427387903 : Nat) : Int) from rfl, u64_and_nat _ _ (by omega) (by omega), nat_mask62_]
  unfold low62
  omega
theorem w64_hstep (x : Nat) (c : UInt8) (h : x < 4611686018427387904) :
    bits BinOp.and IntKind.u64 (IntKind.u64.wrap (((x ^^^ c.toNat : Nat) : Int) * 1099511628211)) 4611686018427387903 = ((hstep x c : Nat) : Int) := by
  rw [w64_low]
  unfold low62 hstep
  generalize x ^^^ c.toNat = y
  rw [show ((y : Int) * 1099511628211) = ((y * 1099511628211 : Nat) : Int) by omega]
  generalize y * 1099511628211 = z
  omega
theorem low62_lt (h : Int) : low62 h < 4611686018427387904 := by unfold low62; omega
theorem hstep_lt (x : Nat) (c : UInt8) : hstep x c < 4611686018427387904 := Nat.mod_lt _ (by omega)
theorem more_lt (h : Int) (l : List UInt8) : more h l < 4611686018427387904 := by
  unfold more
  rcases List.eq_nil_or_concat l with rfl | ⟨l', c, rfl⟩
  · exact low62_lt h
  · rw [List.concat_eq_append, List.foldl_append, List.foldl_cons, List.foldl_nil]; exact hstep_lt _ _
theorem more_take (h : Int) (l : List UInt8) (k : Nat) (hk : k < l.length) : more h (l.take (k + 1)) = hstep (more h (l.take k)) l[k] := by
  unfold more; rw [List.take_succ_eq_append_getElem hk, List.foldl_append, List.foldl_cons, List.foldl_nil]
theorem more_append (h : Int) (a b : List UInt8) : more ((more h a : Nat) : Int) b = more h (a ++ b) := by
  have e : low62 ((more h a : Nat) : Int) = more h a := by
    have := more_lt h a; unfold low62; omega
  unfold more at *; rw [List.foldl_append, e]

/-! ### Hex -/
def hexDig (d : Nat) : UInt8 := if d < 10 then UInt8.ofNat (48 + d) else UInt8.ofNat (87 + d)
def hexL : Nat → Nat → List UInt8
  | 0, _ => []
  | j+1, x => hexDig (x / 16 ^ j % 16) :: hexL j x
def hex (n : Int) : List UInt8 := hexL 16 (low62 n)
theorem hexL_length (j x : Nat) : (hexL j x).length = j := by
  induction j with
  | zero => rfl
  | succ j ih => simp [hexL, ih]

/-! ### Unhex -/
def hexVal (c : UInt8) : Option Nat :=
  if 48 ≤ c.toNat ∧ c.toNat ≤ 57 then some (c.toNat - 48) else if 97 ≤ c.toNat ∧ c.toNat ≤ 102 then some (c.toNat - 87) else none
def hvStep (o : Option Nat) (c : UInt8) : Option Nat := o.bind fun x => (hexVal c).map fun d => 16 * x + d
def hvs (l : List UInt8) : Option Nat := l.foldl hvStep (some 0)
def unhex (l : List UInt8) : Option Nat := if l.length = 16 then (hvs l).filter fun x => x < 4611686018427387904 else none

theorem hexVal_lt {c : UInt8} {d : Nat} (h : hexVal c = some d) : d < 16 := by
  unfold hexVal at h
  split at h
  · injection h; omega
  · split at h
    · injection h; omega
    · cases h
theorem hvs_snoc (l : List UInt8) (c : UInt8) : hvs (l ++ [c]) = hvStep (hvs l) c := by simp [hvs]
theorem hvs_append (l m : List UInt8) : hvs (l ++ m) = m.foldl hvStep (hvs l) := by simp [hvs]
theorem hvFold_none (m : List UInt8) : m.foldl hvStep none = none := by
  induction m with
  | nil => rfl
  | cons c m ih => simpa [hvStep] using ih
theorem hvs_none {l m : List UInt8} (h : hvs l = none) : hvs (l ++ m) = none := by rw [hvs_append, h, hvFold_none]
theorem hvFold_ge (m : List UInt8) : ∀ (x y : Nat), m.foldl hvStep (some x) = some y → x * 16 ^ m.length ≤ y ∧ y < (x + 1) * 16 ^ m.length := by
  induction m with
  | nil => intro x y h; simp at h; subst h; simp
  | cons c m ih =>
    intro x y h
    rw [List.foldl_cons] at h
    rcases hc : hexVal c with _ | d
    · simp [hvStep, hc, hvFold_none] at h
    · have hd := hexVal_lt hc
      simp only [hvStep, hc, Option.bind_some, Option.map_some] at h
      have := ih _ _ h
      rw [List.length_cons, Nat.pow_succ]
      generalize 16 ^ m.length = p at *
      have h1 : x * (p * 16) = 16 * x * p := by rw [Nat.mul_comm p 16, ← Nat.mul_assoc, Nat.mul_comm x 16]
      have h2 : (x + 1) * (p * 16) = (16 * x + 16) * p := by rw [Nat.mul_comm p 16, ← Nat.mul_assoc, Nat.mul_comm (x + 1) 16, Nat.mul_add]
      rw [h1, h2]
      have h3 : 16 * x * p ≤ (16 * x + d) * p := Nat.mul_le_mul_right _ (by omega)
      have h4 : (16 * x + d + 1) * p ≤ (16 * x + 16) * p := Nat.mul_le_mul_right _ (by omega)
      omega
theorem hvs_lt {l : List UInt8} {x : Nat} (h : hvs l = some x) : x < 16 ^ l.length := by
  have := (hvFold_ge l 0 x h).2; omega
theorem hvs_first {c : UInt8} {l : List UInt8} {x : Nat} (h : hvs (c :: l) = some x) :
    (c.toNat ≤ 51 → x < 4 * 16 ^ l.length) ∧ (51 < c.toNat → 4 * 16 ^ l.length ≤ x) := by
  unfold hvs at h
  rw [List.foldl_cons] at h
  rcases hc : hexVal c with _ | d
  · simp [hvStep, hc, hvFold_none] at h
  · simp only [hvStep, hc, Option.bind_some, Option.map_some, Nat.mul_zero, Nat.zero_add] at h
    have := hvFold_ge l d x h
    have hd : (c.toNat ≤ 51 → d ≤ 3) ∧ (51 < c.toNat → 4 ≤ d) := by
      unfold hexVal at hc
      split at hc
      · injection hc; omega
      · split at hc
        · injection hc; omega
        · cases hc
    constructor
    · intro h1
      have h3 : (d + 1) * 16 ^ l.length ≤ 4 * 16 ^ l.length := Nat.mul_le_mul_right _ (by have := hd.1 h1; omega)
      omega
    · intro h1
      have h3 : 4 * 16 ^ l.length ≤ d * 16 ^ l.length := Nat.mul_le_mul_right _ (by have := hd.2 h1; omega)
      omega
end Go.Proofs.Ythjmdfimnbmbfaa
