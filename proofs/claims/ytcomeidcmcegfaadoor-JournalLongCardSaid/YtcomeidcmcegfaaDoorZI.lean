/-
  The plain functions of layer 5 (sums): the checksum, the hash, hexadecimal digits, with the bounds that the walks use. Conditions: none; no program in sight.
  The checksum tells bursts: bytes of one length that differ only among 32 consecutive bits have the same checksum only if they are equal. Conditions: none; no program in sight.
  The plain functions of layer 6 (frame) and their laws: a frame is opened to what was sealed; what is opened was sealed; a frame that is cut is too short; the checksum of a frame. Conditions: none; no program in sight.
  The plain laws of layer 5: Hex and Unhex are inverse; different hashes stay different; bytes that differ within four that follow one another have different checksums. Conditions: none; no program in sight.
  Plain laws of layer 6: inverted bits are noticed; frames one after the other, cut anywhere. Conditions: none; no program in sight.
-/
import Derived.Laws.BitsAllLaws
import Derived.WalkKit
import Derived.Test.YtcomeidcmcegfaaDoorZA
namespace Go.Proofs.YtcomeidcmcegfaaDoor
open Go.RowKit
set_option linter.unusedVariables false

/-! ### Crc -/
def cstep (x : Nat) : Nat := if x % 2 = 1 then x / 2 ^^^ 3988292384 else x / 2
def cstepN : Nat → Nat → Nat
  | 0, x => x
  | k+1, x => cstep (cstepN k x)
def cbyte (x : Nat) (c : UInt8) : Nat := cstepN 8 (x ^^^ c.toNat)
def creg (l : List UInt8) : Nat := l.foldl cbyte 4294967295
def crc (l : List UInt8) : Nat := creg l ^^^ 4294967295

theorem cstep_lt {x : Nat} (h : x < 4294967296) : cstep x < 4294967296 := by
  unfold cstep; split
  · exact Nat.xor_lt_two_pow (n := 32) (by omega) (by omega)
  · omega
theorem cstepN_lt (k : Nat) {x : Nat} (h : x < 4294967296) : cstepN k x < 4294967296 := by
  induction k with
  | zero => exact h
  | succ k ih => exact cstep_lt ih
theorem cbyte_lt {x : Nat} (c : UInt8) (h : x < 4294967296) : cbyte x c < 4294967296 :=
  cstepN_lt 8 (Nat.xor_lt_two_pow (n := 32) (by omega) (by have := c.toNat_lt; omega))
theorem cfold_lt (l : List UInt8) {x : Nat} (h : x < 4294967296) : l.foldl cbyte x < 4294967296 := by
  induction l generalizing x with
  | nil => exact h
  | cons c l ih => exact ih (cbyte_lt c h)
theorem creg_lt (l : List UInt8) : creg l < 4294967296 := cfold_lt l (by omega)
theorem crc_lt (l : List UInt8) : crc l < 4294967296 := Nat.xor_lt_two_pow (n := 32) (creg_lt l) (by omega)
theorem creg_take (l : List UInt8) (k : Nat) (h : k < l.length) : creg (l.take (k + 1)) = cstepN 8 (creg (l.take k) ^^^ l[k].toNat) := by
  unfold creg; rw [List.take_succ_eq_append_getElem h, List.foldl_append]; rfl

theorem w32_byte (x : Nat) (c : UInt8) (h : x < 4294967296) : bits BinOp.xor IntKind.u32 (x : Int) ((c.toNat : Int) % 4294967296) = ((x ^^^ c.toNat : Nat) : Int) := by
  have := c.toNat_lt
  rw [Int.emod_eq_of_lt (by omega) (by omega), u32_xor_nat _ _ h (by omega)]
theorem w32_and1 (x : Nat) (h : x < 4294967296) : bits BinOp.and IntKind.u32 (x : Int) 1 = ((x % 2 : Nat) : Int) := by
  rw [show (1 : Int) = ((1 : Nat) : Int) from rfl, u32_and_nat _ _ h (by omega), nat_mask1]
theorem w32_odd (x : Nat) (h : x < 4294967296) (ht : ((x : Int) % 2 == 1) = true) : bits BinOp.xor IntKind.u32 ((x : Int) / 2) 3988292384 = ((cstep x : Nat) : Int) := by
  have ht' : x % 2 = 1 := by have := eq_of_beq ht; omega
  rw [show ((x : Int) / 2) = ((x / 2 : Nat) : Int) by omega, show (3988292384 : Int) = ((3988292384 : Nat) : Int) from rfl, u32_xor_nat _ _ (by omega) (by omega)]
  simp [cstep, ht']
theorem w32_even (x : Nat) (ht : ((x : Int) % 2 == 1) = false) : ((x : Int) / 2) = ((cstep x : Nat) : Int) := by
  have ht' : ¬ x % 2 = 1 := by have := ne_of_beq_false ht; omega
  simp [cstep, ht']
theorem w32_not (x : Nat) (h : x < 4294967296) : wrap64 (bits BinOp.xor IntKind.u32 IntKind.u32.max (x : Int)) = ((x ^^^ 4294967295 : Nat) : Int) := by
  have hx := Nat.xor_lt_two_pow (n := 32) h (show 4294967295 < 2 ^ 32 by omega)
  rw [show IntKind.u32.max = ((4294967295 : Nat) : Int) from rfl, u32_xor_nat _ _ (by omega) (by omega), Nat.xor_comm]
  exact IntWalk.wrap64_in _ ⟨by omega, by omega⟩
theorem w64_odd (x : Nat) (h : x < 4294967296) (ht : ((x : Int) % 2 == 1) = true) : bits BinOp.xor IntKind.u64 ((x : Int) / 2) 3988292384 = ((cstep x : Nat) : Int) := by
  have ht' : x % 2 = 1 := by have := eq_of_beq ht; omega
  rw [show ((x : Int) / 2) = ((x / 2 : Nat) : Int) by omega, show (3988292384 : Int) = ((3988292384 : Nat) : Int) from rfl, u64_xor_nat _ _ (by omega) (by omega)]
  simp [cstep, ht']

theorem w64_byte (x : Nat) (c : UInt8) (h : x < 4611686018427387904) : bits BinOp.xor IntKind.u64 (x : Int) (IntKind.u64.wrap (c.toNat : Int)) = ((x ^^^ c.toNat : Nat) : Int) := by
  have := c.toNat_lt
  rw [IntKind.wrap_u64, Int.emod_eq_of_lt (by omega) (by omega), u64_xor_nat _ _ (by omega) (by omega)]
theorem w64_not (x : Nat) (h : x < 4294967296) : wrap64 (bits BinOp.xor IntKind.u64 (x : Int) 4294967295) = ((x ^^^ 4294967295 : Nat) : Int) := by
  have hx := Nat.xor_lt_two_pow (n := 32) h (show 4294967295 < 2 ^ 32 by omega)
  rw [show (4294967295 : Int) = ((4294967295 : Nat) : Int) from rfl, u64_xor_nat _ _ (by omega) (by omega)]
  exact IntWalk.wrap64_in _ ⟨by omega, by omega⟩

/-! ### Hash -/
def hstep (x : Nat) (c : UInt8) : Nat := ((x ^^^ c.toNat) * 1099511628211) % 4611686018427387904
def low62 (h : Int) : Nat := (h % 4611686018427387904).toNat
def more (h : Int) (l : List UInt8) : Nat := l.foldl hstep (low62 h)
def hash (l : List UInt8) : Nat := more 860922984064492325 l

theorem nat_mask62_ (x : Nat) : x &&& 4611686018427387903 = x % 4611686018427387904 := Nat.and_two_pow_sub_one_eq_mod x 62
theorem w64_low (h : Int) : bits BinOp.and IntKind.u64 (IntKind.u64.wrap h) 4611686018427387903 = ((low62 h : Nat) : Int) := by
  rw [IntKind.wrap_u64]
  have h1 : (h % 18446744073709551616) = (((h % 18446744073709551616).toNat : Nat) : Int) := by omega
  rw [h1, show (4611686018427387903 : Int) = ((4611686018427387903 : Nat) : Int) from rfl, u64_and_nat _ _ (by omega) (by omega), nat_mask62_]
  unfold low62
  omega
theorem w64_hstep (x : Nat) (c : UInt8) (h : x < 4611686018427387904) :
    bits BinOp.and IntKind.u64 (IntKind.u64.wrap (((x ^^^ c.toNat : Nat) : Int) * 1099511628211)) 4611686018427387903 = ((hstep x c : Nat) : Int) := by
  rw [w64_low]
  unfold low62 hstep
  generalize x ^^^ c.toNat = y
  rw [show ((y : Int) * 1099511628211) = ((y * 1099511628211 : Nat) : Int) by omega]
  generalize y * 1099511628211 = z
  omega
theorem low62_lt (h : Int) : low62 h < 4611686018427387904 := by unfold low62; omega
theorem hstep_lt (x : Nat) (c : UInt8) : hstep x c < 4611686018427387904 := Nat.mod_lt _ (by omega)
theorem more_lt (h : Int) (l : List UInt8) : more h l < 4611686018427387904 := by
  unfold more
  rcases List.eq_nil_or_concat l with rfl | ⟨l', c, rfl⟩
  · exact low62_lt h
  · rw [List.concat_eq_append, List.foldl_append, List.foldl_cons, List.foldl_nil]; exact hstep_lt _ _
theorem more_take (h : Int) (l : List UInt8) (k : Nat) (hk : k < l.length) : more h (l.take (k + 1)) = hstep (more h (l.take k)) l[k] := by
  unfold more; rw [List.take_succ_eq_append_getElem hk, List.foldl_append, List.foldl_cons, List.foldl_nil]
theorem more_append (h : Int) (a b : List UInt8) : more ((more h a : Nat) : Int) b = more h (a ++ b) := by
  have e : low62 ((more h a : Nat) : Int) = more h a := by
    have := more_lt h a; unfold low62; omega
  unfold more at *; rw [List.foldl_append, e]

/-! ### Hex -/
def hexDig (d : Nat) : UInt8 := if d < 10 then UInt8.ofNat (48 + d) else UInt8.ofNat (87 + d)
def hexL : Nat → Nat → List UInt8
  | 0, _ => []
  | j+1, x => hexDig (x / 16 ^ j % 16) :: hexL j x
def hex (n : Int) : List UInt8 := hexL 16 (low62 n)
theorem hexL_length (j x : Nat) : (hexL j x).length = j := by
  induction j with
  | zero => rfl
  | succ j ih => simp [hexL, ih]

/-! ### Unhex -/
def hexVal (c : UInt8) : Option Nat :=
  if 48 ≤ c.toNat ∧ c.toNat ≤ 57 then some (c.toNat - 48) else if 97 ≤ c.toNat ∧ c.toNat ≤ 102 then some (c.toNat - 87) else none
def hvStep (o : Option Nat) (c : UInt8) : Option Nat := o.bind fun x => (hexVal c).map fun d => 16 * x + d
def hvs (l : List UInt8) : Option Nat := l.foldl hvStep (some 0)
def unhex (l : List UInt8) : Option Nat := if l.length = 16 then (hvs l).filter fun x => x < 4611686018427387904 else none

theorem hexVal_lt {c : UInt8} {d : Nat} (h : hexVal c = some d) : d < 16 := by
  unfold hexVal at h
  split at h
  · injection h; omega
  · split at h
    · injection h; omega
    · cases h
theorem hvs_snoc (l : List UInt8) (c : UInt8) : hvs (l ++ [c]) = hvStep (hvs l) c := by simp [hvs]
theorem hvs_append (l m : List UInt8) : hvs (l ++ m) = m.foldl hvStep (hvs l) := by simp [hvs]
theorem hvFold_none (m : List UInt8) : m.foldl hvStep none = none := by
  induction m with
  | nil => rfl
  | cons c m ih => simpa [hvStep] using ih
theorem hvs_none {l m : List UInt8} (h : hvs l = none) : hvs (l ++ m) = none := by rw [hvs_append, h, hvFold_none]
theorem hvFold_ge (m : List UInt8) : ∀ (x y : Nat), m.foldl hvStep (some x) = some y → x * 16 ^ m.length ≤ y ∧ y < (x + 1) * 16 ^ m.length := by
  induction m with
  | nil => intro x y h; simp at h; subst h; simp
  | cons c m ih =>
    intro x y h
    rw [List.foldl_cons] at h
    rcases hc : hexVal c with _ | d
    · simp [hvStep, hc, hvFold_none] at h
    · have hd := hexVal_lt hc
      simp only [hvStep, hc, Option.bind_some, Option.map_some] at h
      have := ih _ _ h
      rw [List.length_cons, Nat.pow_succ]
      generalize 16 ^ m.length = p at *
      have h1 : x * (p * 16) = 16 * x * p := by rw [Nat.mul_comm p 16, ← Nat.mul_assoc, Nat.mul_comm x 16]
      have h2 : (x + 1) * (p * 16) = (16 * x + 16) * p := by rw [Nat.mul_comm p 16, ← Nat.mul_assoc, Nat.mul_comm (x + 1) 16, Nat.mul_add]
      rw [h1, h2]
      have h3 : 16 * x * p ≤ (16 * x + d) * p := Nat.mul_le_mul_right _ (by omega)
      have h4 : (16 * x + d + 1) * p ≤ (16 * x + 16) * p := Nat.mul_le_mul_right _ (by omega)
      omega
theorem hvs_lt {l : List UInt8} {x : Nat} (h : hvs l = some x) : x < 16 ^ l.length := by
  have := (hvFold_ge l 0 x h).2; omega
theorem hvs_first {c : UInt8} {l : List UInt8} {x : Nat} (h : hvs (c :: l) = some x) :
    (c.toNat ≤ 51 → x < 4 * 16 ^ l.length) ∧ (51 < c.toNat → 4 * 16 ^ l.length ≤ x) := by
  unfold hvs at h
  rw [List.foldl_cons] at h
  rcases hc : hexVal c with _ | d
  · simp [hvStep, hc, hvFold_none] at h
  · simp only [hvStep, hc, Option.bind_some, Option.map_some, Nat.mul_zero, Nat.zero_add] at h
    have := hvFold_ge l d x h
    have hd : (c.toNat ≤ 51 → d ≤ 3) ∧ (51 < c.toNat → 4 ≤ d) := by
      unfold hexVal at hc
      split at hc
      · injection hc; omega
      · split at hc
        · injection hc; omega
        · cases hc
    constructor
    · intro h1
      have h3 : (d + 1) * 16 ^ l.length ≤ 4 * 16 ^ l.length := Nat.mul_le_mul_right _ (by have := hd.1 h1; omega)
      omega
    · intro h1
      have h3 : 4 * 16 ^ l.length ≤ d * 16 ^ l.length := Nat.mul_le_mul_right _ (by have := hd.2 h1; omega)
      omega
end Go.Proofs.YtcomeidcmcegfaaDoor

namespace Go.Proofs.YtcomeidcmcegfaaDoor
open Go.RowKit
set_option linter.unusedVariables false

theorem xor_cancel (a b : Nat) : a ^^^ b ^^^ b = a := by rw [Nat.xor_assoc, Nat.xor_self, Nat.xor_zero]
theorem xor_zero_eq {a b : Nat} (h : a ^^^ b = 0) : a = b := by
  have := xor_cancel a b
  rw [h, Nat.zero_xor] at this
  exact this.symm
theorem xor_inj {a b c : Nat} (h : a ^^^ c = b ^^^ c) : a = b := by
  rw [← xor_cancel a c, h, xor_cancel]
theorem xor_mod2 (a b : Nat) : (a ^^^ b) % 2 = (a % 2 + b % 2) % 2 := by
  have h := @Nat.xor_mod_two_pow a b 1
  simp only [Nat.pow_one] at h
  rw [h]
  rcases Nat.mod_two_eq_zero_or_one a with h1 | h1 <;> rcases Nat.mod_two_eq_zero_or_one b with h2 | h2 <;> rw [h1, h2] <;> rfl
theorem xor_four (a b p : Nat) : a ^^^ p ^^^ (b ^^^ p) = a ^^^ b := by
  apply Nat.eq_of_testBit_eq; intro i
  simp only [Nat.testBit_xor]
  cases a.testBit i <;> cases b.testBit i <;> cases p.testBit i <;> rfl
theorem xor_swap (a b c d : Nat) : a ^^^ b ^^^ (c ^^^ d) = a ^^^ c ^^^ (b ^^^ d) := by
  apply Nat.eq_of_testBit_eq; intro i
  simp only [Nat.testBit_xor]
  cases a.testBit i <;> cases b.testBit i <;> cases c.testBit i <;> cases d.testBit i <;> rfl
theorem xor_three (a b p : Nat) : a ^^^ b ^^^ p = a ^^^ p ^^^ b := by
  rw [Nat.xor_assoc, Nat.xor_comm b p, ← Nat.xor_assoc]

theorem cstep_xor (x y : Nat) : cstep (x ^^^ y) = cstep x ^^^ cstep y := by
  have h := xor_mod2 x y
  unfold cstep
  rw [Nat.xor_div_two]
  rcases Nat.mod_two_eq_zero_or_one x with h1 | h1 <;> rcases Nat.mod_two_eq_zero_or_one y with h2 | h2 <;> rw [h, h1, h2]
  · simp
  · simp [Nat.xor_assoc]
  · simp [xor_three]
  · simp [xor_four]
theorem cstep_two (m : Nat) : cstep (2 * m) = m := by
  unfold cstep; rw [if_neg (by omega)]; omega
theorem cstep_low {y z : Nat} (hy : y < 4294967296) (h : cstep y = z) (hz : z < 2147483648) : y = 2 * z := by
  unfold cstep at h
  split at h
  · exfalso
    have h1 : (y / 2 ^^^ 3988292384) / 2 ^ 31 = y / 2 / 2 ^ 31 ^^^ 3988292384 / 2 ^ 31 := Nat.xor_div_two_pow
    rw [show y / 2 / 2 ^ 31 = 0 by omega, show 3988292384 / 2 ^ 31 = 1 by omega, h] at h1
    have h2 : z / 2 ^ 31 = 0 := by omega
    rw [h2] at h1
    exact absurd h1 (by decide)
  · omega

/-! ### bit by bit -/
def cbit (x : Nat) (b : Nat) : Nat := cstep (x ^^^ b)
def bitsOf : Nat → Nat → List Nat
  | 0, _ => []
  | k+1, c => c % 2 :: bitsOf k (c / 2)
def bitL (l : List UInt8) : List Nat := l.flatMap fun c => bitsOf 8 c.toNat

theorem cstepN_cstep (k x : Nat) : cstepN k (cstep x) = cstepN (k + 1) x := by
  induction k with
  | zero => rfl
  | succ k ih => show cstep _ = cstep _; rw [ih]
theorem bits_step (k : Nat) : ∀ x c, c < 2 ^ k → (bitsOf k c).foldl cbit x = cstepN k (x ^^^ c) := by
  induction k with
  | zero => intro x c h; have : c = 0 := by omega
            subst this; simp [bitsOf, cstepN]
  | succ k ih =>
    intro x c h
    rw [bitsOf, List.foldl_cons, ih _ _ (by rw [Nat.pow_succ] at h; omega)]
    unfold cbit
    rw [← cstepN_cstep]
    congr 1
    have e : c = c % 2 ^^^ 2 * (c / 2) := by
      have h1 : (c % 2 ^^^ 2 * (c / 2)) / 2 = c / 2 := by
        rw [Nat.xor_div_two, show c % 2 / 2 = 0 by omega, show 2 * (c / 2) / 2 = c / 2 by omega, Nat.zero_xor]
      have h2 : (c % 2 ^^^ 2 * (c / 2)) % 2 = c % 2 := by
        rw [xor_mod2]; omega
      omega
    conv => rhs; rw [e, ← Nat.xor_assoc, cstep_xor, cstep_two]
theorem cbyte_bits (x : Nat) (c : UInt8) : cbyte x c = (bitsOf 8 c.toNat).foldl cbit x := (bits_step 8 x c.toNat (by have := c.toNat_lt; omega)).symm
theorem fold_bits (l : List UInt8) : ∀ x, l.foldl cbyte x = (bitL l).foldl cbit x := by
  induction l with
  | nil => intro x; rfl
  | cons c l ih => intro x; rw [List.foldl_cons, cbyte_bits, bitL, List.flatMap_cons, List.foldl_append]; exact ih _
theorem bitsOf_le (k c b : Nat) (h : b ∈ bitsOf k c) : b < 2 := by
  induction k generalizing c with
  | zero => simp [bitsOf] at h
  | succ k ih =>
    rw [bitsOf, List.mem_cons] at h
    rcases h with h | h
    · omega
    · exact ih _ h
theorem bitL_le (l : List UInt8) : ∀ b ∈ bitL l, b < 2 := by
  intro b hb
  obtain ⟨c, _, h⟩ := List.mem_flatMap.1 hb
  exact bitsOf_le _ _ _ h
theorem bitsOf_length (k c : Nat) : (bitsOf k c).length = k := by
  induction k generalizing c with
  | zero => rfl
  | succ k ih => simp [bitsOf, ih]
theorem bitL_length (l : List UInt8) : (bitL l).length = 8 * l.length := by
  induction l with
  | nil => rfl
  | cons c l ih => rw [bitL, List.flatMap_cons, List.length_append, bitsOf_length]; have : (List.flatMap (fun c => bitsOf 8 c.toNat) l).length = 8 * l.length := ih
                   rw [this, List.length_cons]; omega
theorem bitsOf_inj (k : Nat) : ∀ c d, c < 2 ^ k → d < 2 ^ k → bitsOf k c = bitsOf k d → c = d := by
  induction k with
  | zero => intro c d h1 h2 _; omega
  | succ k ih =>
    intro c d h1 h2 h
    rw [Nat.pow_succ] at h1 h2
    simp only [bitsOf, List.cons.injEq] at h
    have := ih _ _ (by omega) (by omega) h.2
    omega
theorem bitL_inj : ∀ (l m : List UInt8), l.length = m.length → bitL l = bitL m → l = m := by
  intro l
  induction l with
  | nil => intro m h _; exact (List.eq_nil_of_length_eq_zero h.symm).symm
  | cons c l ih =>
    intro m h hb
    rcases m with _ | ⟨d, m⟩
    · simp at h
    · simp only [bitL, List.flatMap_cons] at hb
      have h1 := (List.append_inj hb (by simp [bitsOf_length]))
      have h2 := bitsOf_inj 8 _ _ (by have := c.toNat_lt; omega) (by have := d.toNat_lt; omega) h1.1
      rw [UInt8.toNat_inj.1 h2, ih m (by simpa using h) h1.2]

/-- the difference of two strings of bits, as a number -/
def wOf : List Nat → List Nat → Nat
  | b :: u, d :: v => 2 * wOf u v ^^^ (b ^^^ d)
  | _, _ => 0
theorem wOf_lt : ∀ (u v : List Nat), (∀ b ∈ u, b < 2) → (∀ b ∈ v, b < 2) → wOf u v < 2 ^ u.length := by
  intro u
  induction u with
  | nil => intro v _ _; simp [wOf]
  | cons b u ih =>
    intro v hu hv
    rcases v with _ | ⟨d, v⟩
    · simp [wOf]; exact Nat.two_pow_pos _
    · have := ih v (fun x hx => hu x (List.mem_cons_of_mem _ hx)) (fun x hx => hv x (List.mem_cons_of_mem _ hx))
      rw [wOf, List.length_cons]
      refine Nat.xor_lt_two_pow (by rw [Nat.pow_succ]; omega) ?_
      refine Nat.xor_lt_two_pow ?_ ?_
      · have := hu b (List.mem_cons_self); rw [Nat.pow_succ]; have := Nat.two_pow_pos u.length; omega
      · have := hv d (List.mem_cons_self); rw [Nat.pow_succ]; have := Nat.two_pow_pos u.length; omega
theorem wOf_zero : ∀ (u v : List Nat), u.length = v.length → (∀ b ∈ u, b < 2) → (∀ b ∈ v, b < 2) → wOf u v = 0 → u = v := by
  intro u
  induction u with
  | nil => intro v h _ _ _; exact (List.eq_nil_of_length_eq_zero h.symm).symm
  | cons b u ih =>
    intro v h hu hv h0
    rcases v with _ | ⟨d, v⟩
    · simp at h
    · rw [wOf] at h0
      have h1 := xor_zero_eq h0
      have hb := hu b (List.mem_cons_self)
      have hd := hv d (List.mem_cons_self)
      have h2 : b ^^^ d < 2 := Nat.xor_lt_two_pow (n := 1) (by omega) (by omega)
      have h3 : b = d := xor_zero_eq (by omega)
      rw [h3, ih v (by simpa using h) (fun x hx => hu x (List.mem_cons_of_mem _ hx)) (fun x hx => hv x (List.mem_cons_of_mem _ hx)) (by omega)]
theorem cbit_lt {x b : Nat} (h : x < 4294967296) (hb : b < 2) : cbit x b < 4294967296 := cstep_lt (Nat.xor_lt_two_pow (n := 32) h (by omega))
theorem cbits_lt (u : List Nat) : ∀ x, x < 4294967296 → (∀ b ∈ u, b < 2) → u.foldl cbit x < 4294967296 := by
  induction u with
  | nil => intro x h _; exact h
  | cons b u ih => intro x h hu; exact ih _ (cbit_lt h (hu b (List.mem_cons_self))) (fun y hy => hu y (List.mem_cons_of_mem _ hy))
/-- two registers that meet again after at most 32 bits differed by the difference of the bits -/
theorem meet : ∀ (u v : List Nat) (x y : Nat), u.length = v.length → u.length ≤ 32 → (∀ b ∈ u, b < 2) → (∀ b ∈ v, b < 2) → x < 4294967296 → y < 4294967296 →
    u.foldl cbit x = v.foldl cbit y → x ^^^ y = wOf u v := by
  intro u
  induction u with
  | nil =>
    intro v x y h _ _ _ _ _ he
    have : v = [] := List.eq_nil_of_length_eq_zero h.symm
    subst this
    simp at he
    rw [he, Nat.xor_self]; rfl
  | cons b u ih =>
    intro v x y h h32 hu hv hx hy he
    rcases v with _ | ⟨d, v⟩
    · simp at h
    · have hb := hu b (List.mem_cons_self)
      have hd := hv d (List.mem_cons_self)
      have hu' : ∀ b ∈ u, b < 2 := fun y hy => hu y (List.mem_cons_of_mem _ hy)
      have hv' : ∀ b ∈ v, b < 2 := fun y hy => hv y (List.mem_cons_of_mem _ hy)
      rw [List.length_cons] at h32
      have h1 := ih v (cbit x b) (cbit y d) (by simpa using h) (by omega) hu' hv' (cbit_lt hx hb) (cbit_lt hy hd) he
      have h2 : wOf u v < 2147483648 := by
        have := wOf_lt u v hu' hv'
        have h3 : 2 ^ u.length ≤ 2 ^ 31 := Nat.pow_le_pow_right (by omega) (by omega)
        omega
      unfold cbit at h1
      rw [← cstep_xor, xor_swap] at h1
      have h4 := cstep_low (Nat.xor_lt_two_pow (n := 32) (Nat.xor_lt_two_pow (n := 32) hx hy) (Nat.xor_lt_two_pow (n := 32) (by omega) (by omega))) h1 h2
      rw [wOf, ← h4, xor_cancel]
theorem cbit_inj {x y b : Nat} (hx : x < 4294967296) (hy : y < 4294967296) (hb : b < 2) (h : cbit x b = cbit y b) : x = y := by
  have := meet [b] [b] x y rfl (by simp) (by simpa using hb) (by simpa using hb) hx hy h
  simp [wOf] at this
  exact xor_zero_eq this
theorem cbits_inj (u : List Nat) : ∀ x y, x < 4294967296 → y < 4294967296 → (∀ b ∈ u, b < 2) → u.foldl cbit x = u.foldl cbit y → x = y := by
  induction u with
  | nil => intro x y _ _ _ h; exact h
  | cons b u ih =>
    intro x y hx hy hu h
    have hb := hu b (List.mem_cons_self)
    exact cbit_inj hx hy hb (ih _ _ (cbit_lt hx hb) (cbit_lt hy hb) (fun y hy => hu y (List.mem_cons_of_mem _ hy)) h)
/-- strings of bits that agree before and after at most 32 of them, with one register at the end, are equal -/
theorem burst_bits (p u v s : List Nat) (x : Nat) (hx : x < 4294967296) (h : u.length = v.length) (h32 : u.length ≤ 32) (hp : ∀ b ∈ p, b < 2) (hu : ∀ b ∈ u, b < 2) (hv : ∀ b ∈ v, b < 2) (hs : ∀ b ∈ s, b < 2)
    (he : (p ++ (u ++ s)).foldl cbit x = (p ++ (v ++ s)).foldl cbit x) : u = v := by
  simp only [List.foldl_append] at he
  have h0 := cbits_lt p x hx hp
  have h1 := cbits_inj s _ _ (cbits_lt u _ h0 hu) (cbits_lt v _ h0 hv) hs he
  have h2 := meet u v _ _ h h32 hu hv h0 h0 h1
  rw [Nat.xor_self] at h2
  exact wOf_zero u v h hu hv h2.symm
theorem crc_creg {a b : List UInt8} (h : crc a = crc b) : creg a = creg b := xor_inj h
/-- bytes of one length whose bits agree outside 32 consecutive ones, with one checksum, are equal -/
theorem crc_burst (a b : List UInt8) (k : Nat) (hl : a.length = b.length) (hd : ∀ i, ¬ (k ≤ i ∧ i < k + 32) → (bitL a)[i]? = (bitL b)[i]?) (h : crc a = crc b) : a = b := by
  have h1 := crc_creg h
  unfold creg at h1
  rw [fold_bits, fold_bits] at h1
  have hlen : (bitL a).length = (bitL b).length := by rw [bitL_length, bitL_length, hl]
  have hp : (bitL a).take k = (bitL b).take k := by
    apply List.ext_getElem?; intro i
    by_cases hi : i < k
    · rw [List.getElem?_take_of_lt hi, List.getElem?_take_of_lt hi]; exact hd i (by omega)
    · rw [List.getElem?_eq_none (by simp; omega), List.getElem?_eq_none (by simp; omega)]
  have hs : ((bitL a).drop k).drop 32 = ((bitL b).drop k).drop 32 := by
    apply List.ext_getElem?; intro i
    simp only [List.getElem?_drop]
    exact hd _ (by omega)
  have ea : bitL a = (bitL a).take k ++ (((bitL a).drop k).take 32 ++ ((bitL a).drop k).drop 32) := by rw [List.take_append_drop, List.take_append_drop]
  have eb : bitL b = (bitL a).take k ++ (((bitL b).drop k).take 32 ++ ((bitL a).drop k).drop 32) := by rw [hp, hs, List.take_append_drop, List.take_append_drop]
  have h2 := h1
  rw [ea, eb] at h2
  have h3 := burst_bits _ _ _ _ _ (by omega) (by simp [hlen]) (by simp; omega) (fun b hb => bitL_le a b (List.mem_of_mem_take hb)) (fun b hb => bitL_le a b (List.mem_of_mem_drop (List.mem_of_mem_take hb)))
    (fun c hc => bitL_le b c (List.mem_of_mem_drop (List.mem_of_mem_take hc))) (fun b hb => bitL_le a b (List.mem_of_mem_drop (List.mem_of_mem_drop hb))) h2
  refine bitL_inj a b hl ?_
  rw [eb, ← h3]; exact ea
end Go.Proofs.YtcomeidcmcegfaaDoor

namespace Go.Proofs.YtcomeidcmcegfaaDoor
open Go.RowKit
set_option linter.unusedVariables false

def tail4 (n : Nat) : List UInt8 := [UInt8.ofNat (n % 256), UInt8.ofNat (n / 256 % 256), UInt8.ofNat (n / 65536 % 256), UInt8.ofNat (n / 16777216 % 256)]
theorem tail4_length (n : Nat) : (tail4 n).length = 4 := rfl
def fhead (kind : Int) (n : Nat) : List UInt8 := 76 :: UInt8.ofNat kind.toNat :: enc n
def fmsg (kind : Int) (b : List UInt8) : List UInt8 := fhead kind b.length ++ b
def fseal (kind : Int) (b : List UInt8) : List UInt8 := fmsg kind b ++ tail4 (crc (fmsg kind b))
theorem fhead_length (kind : Int) (n : Nat) : (fhead kind n).length = 2 + (enc n).length := by simp [fhead]; omega
theorem fmsg_length (kind : Int) (b : List UInt8) : (fmsg kind b).length = 2 + (enc b.length).length + b.length := by unfold fmsg; rw [List.length_append, fhead_length]
theorem fseal_length (kind : Int) (b : List UInt8) : (fseal kind b).length = 2 + (enc b.length).length + b.length + 4 := by unfold fseal; rw [List.length_append, fmsg_length, tail4_length]

/-- Seal: the error -/
def slE (kind : Int) (n : Nat) : Int := if kind < 1 ∨ 255 < kind then 1 else if 1048576 < n then 5 else 0
def slB (kind : Int) (b : List UInt8) : List UInt8 := if slE kind b.length = 0 then fseal kind b else []

/-- Open: the error, the kind, the content, the index behind the frame -/
def frN (b : List UInt8) (k : Nat) : Int × Int × List UInt8 × Int :=
  if k = b.length then (4, 0, [], 0) else
  if (b.getD k 0).toNat ≠ 76 then (3, 0, [], 0) else
  if k + 1 = b.length then (4, 0, [], 0) else
  if (b.getD (k + 1) 0).toNat = 0 then (3, 0, [], 0) else
  if rdE b ((k + 2 : Nat) : Int) ≠ 0 then (rdE b ((k + 2 : Nat) : Int), 0, [], 0) else
  if rdN b ((k + 2 : Nat) : Int) < 0 ∨ 1048576 < rdN b ((k + 2 : Nat) : Int) then (3, 0, [], 0) else
  if (b.length : Int) - rdT b ((k + 2 : Nat) : Int) < rdN b ((k + 2 : Nat) : Int) + 4 then (4, 0, [], 0) else
  if (b.drop ((rdT b ((k + 2 : Nat) : Int)).toNat + (rdN b ((k + 2 : Nat) : Int)).toNat)).take 4 ≠ tail4 (crc ((b.drop k).take ((rdT b ((k + 2 : Nat) : Int)).toNat + (rdN b ((k + 2 : Nat) : Int)).toNat - k))) then (6, 0, [], 0) else
  (0, ((b.getD (k + 1) 0).toNat : Int), (b.drop (rdT b ((k + 2 : Nat) : Int)).toNat).take (rdN b ((k + 2 : Nat) : Int)).toNat, rdT b ((k + 2 : Nat) : Int) + rdN b ((k + 2 : Nat) : Int) + 4)
def frR (b : List UInt8) (a : Int) : Int × Int × List UInt8 × Int := if a < 0 ∨ (b.length : Int) < a then (2, 0, [], 0) else frN b a.toNat
def frE (b : List UInt8) (a : Int) : Int := (frR b a).1
def frK (b : List UInt8) (a : Int) : Int := (frR b a).2.1
def frC (b : List UInt8) (a : Int) : List UInt8 := (frR b a).2.2.1
def frT (b : List UInt8) (a : Int) : Int := (frR b a).2.2.2

section
variable {b : List UInt8} {k : Nat}
theorem op_range {a : Int} (h : a < 0 ∨ (b.length : Int) < a) : frR b a = (2, 0, [], 0) := by unfold frR; rw [if_pos h]
theorem op_in (h : k ≤ b.length) : frR b (k : Int) = frN b k := by unfold frR; rw [if_neg (by omega), Int.toNat_natCast]
theorem op_end (h : k = b.length) : frR b (k : Int) = (4, 0, [], 0) := by rw [op_in (by omega), frN, if_pos h]
theorem op_mark (h : k < b.length) (h1 : b[k].toNat ≠ 76) : frR b (k : Int) = (3, 0, [], 0) := by
  rw [op_in (by omega), frN, if_neg (by omega), if_pos (by simpa [List.getD, h] using h1)]
theorem op_one (h : k < b.length) (h1 : b[k].toNat = 76) (h2 : k + 1 = b.length) : frR b (k : Int) = (4, 0, [], 0) := by
  rw [op_in (by omega), frN, if_neg (by omega), if_neg (by simpa [List.getD, h] using h1), if_pos h2]
theorem op_zero (h : k + 1 < b.length) (h1 : b[k].toNat = 76) (h2 : b[k + 1].toNat = 0) : frR b (k : Int) = (3, 0, [], 0) := by
  rw [op_in (by omega), frN, if_neg (by omega), if_neg (by simpa [List.getD, show k < b.length by omega] using h1), if_neg (by omega), if_pos (by simpa [List.getD, h] using h2)]
/-- the mark and the kind are there -/
def Marked (b : List UInt8) (k : Nat) : Prop := k + 1 < b.length ∧ (b.getD k 0).toNat = 76 ∧ (b.getD (k + 1) 0).toNat ≠ 0
theorem Marked.mk' (h : k + 1 < b.length) (h1 : b[k].toNat = 76) (h2 : b[k + 1].toNat ≠ 0) : Marked b k :=
  ⟨h, by simpa [List.getD, show k < b.length by omega] using h1, by simpa [List.getD, h] using h2⟩
theorem Marked.go (h : Marked b k) : frR b (k : Int) =
    if rdE b ((k + 2 : Nat) : Int) ≠ 0 then (rdE b ((k + 2 : Nat) : Int), 0, [], 0) else
    if rdN b ((k + 2 : Nat) : Int) < 0 ∨ 1048576 < rdN b ((k + 2 : Nat) : Int) then (3, 0, [], 0) else
    if (b.length : Int) - rdT b ((k + 2 : Nat) : Int) < rdN b ((k + 2 : Nat) : Int) + 4 then (4, 0, [], 0) else
    if (b.drop ((rdT b ((k + 2 : Nat) : Int)).toNat + (rdN b ((k + 2 : Nat) : Int)).toNat)).take 4 ≠ tail4 (crc ((b.drop k).take ((rdT b ((k + 2 : Nat) : Int)).toNat + (rdN b ((k + 2 : Nat) : Int)).toNat - k))) then (6, 0, [], 0) else
    (0, ((b.getD (k + 1) 0).toNat : Int), (b.drop (rdT b ((k + 2 : Nat) : Int)).toNat).take (rdN b ((k + 2 : Nat) : Int)).toNat, rdT b ((k + 2 : Nat) : Int) + rdN b ((k + 2 : Nat) : Int) + 4) := by
  obtain ⟨h0, h1, h2⟩ := h
  rw [op_in (by omega), frN, if_neg (by omega), if_neg (by omega), if_neg (by omega), if_neg (by omega)]
theorem op_int (h : Marked b k) (h3 : rdE b ((k + 2 : Nat) : Int) ≠ 0) : frR b (k : Int) = (rdE b ((k + 2 : Nat) : Int), 0, [], 0) := by rw [h.go, if_pos h3]
theorem op_size (h : Marked b k) (h3 : rdE b ((k + 2 : Nat) : Int) = 0) (h4 : rdN b ((k + 2 : Nat) : Int) < 0 ∨ 1048576 < rdN b ((k + 2 : Nat) : Int)) : frR b (k : Int) = (3, 0, [], 0) := by
  rw [h.go, if_neg (by omega), if_pos h4]
theorem op_short (h : Marked b k) (h3 : rdE b ((k + 2 : Nat) : Int) = 0) (h4 : ¬ (rdN b ((k + 2 : Nat) : Int) < 0 ∨ 1048576 < rdN b ((k + 2 : Nat) : Int)))
    (h5 : (b.length : Int) - rdT b ((k + 2 : Nat) : Int) < rdN b ((k + 2 : Nat) : Int) + 4) : frR b (k : Int) = (4, 0, [], 0) := by
  rw [h.go, if_neg (by omega), if_neg h4, if_pos h5]
/-- the place of the content and its length -/
structure Framed (b : List UInt8) (k T N : Nat) : Prop where
  m : Marked b k
  e : rdE b ((k + 2 : Nat) : Int) = 0
  n : rdN b ((k + 2 : Nat) : Int) = (N : Int)
  t : rdT b ((k + 2 : Nat) : Int) = (T : Int)
  le : N ≤ 1048576
  lt : k + 2 < T
  fit : T + N + 4 ≤ b.length
theorem Framed.of (h : Marked b k) (h3 : rdE b ((k + 2 : Nat) : Int) = 0) (h4 : ¬ (rdN b ((k + 2 : Nat) : Int) < 0 ∨ 1048576 < rdN b ((k + 2 : Nat) : Int)))
    (h5 : ¬ (b.length : Int) - rdT b ((k + 2 : Nat) : Int) < rdN b ((k + 2 : Nat) : Int) + 4) : ∃ T N, Framed b k T N := by
  obtain ⟨b1, b2, b3, b4⟩ := read_bound h3
  exact ⟨(rdT b ((k + 2 : Nat) : Int)).toNat, (rdN b ((k + 2 : Nat) : Int)).toNat, h, h3, by omega, by omega, by omega, by omega, by omega⟩
theorem Framed.go {T N : Nat} (h : Framed b k T N) : frR b (k : Int) =
    if (b.drop (T + N)).take 4 ≠ tail4 (crc ((b.drop k).take (T + N - k))) then (6, 0, [], 0) else (0, ((b.getD (k + 1) 0).toNat : Int), (b.drop T).take N, (T : Int) + N + 4) := by
  have h5 := h.fit
  have h6 := h.le
  rw [h.m.go, if_neg (by rw [h.e]; omega), if_neg (by rw [h.n]; omega), if_neg (by rw [h.n, h.t]; omega), h.n, h.t, Int.toNat_natCast, Int.toNat_natCast]
theorem op_sum {T N : Nat} (h : Framed b k T N) (h6 : (b.drop (T + N)).take 4 ≠ tail4 (crc ((b.drop k).take (T + N - k)))) : frR b (k : Int) = (6, 0, [], 0) := by rw [h.go, if_pos h6]
theorem op_ok {T N : Nat} (h : Framed b k T N) (h6 : (b.drop (T + N)).take 4 = tail4 (crc ((b.drop k).take (T + N - k)))) :
    frR b (k : Int) = (0, ((b.getD (k + 1) 0).toNat : Int), (b.drop T).take N, (T : Int) + N + 4) := by rw [h.go, if_neg (by simpa using h6)]
end

theorem getD_append_right (l m : List UInt8) (j : Nat) : (l ++ m).getD (l.length + j) 0 = m.getD j 0 := by
  simp [List.getD, List.getElem?_append_right (show l.length ≤ l.length + j by omega)]
theorem opE_cases (b : List UInt8) (a : Int) : frE b a = 0 ∨ frR b a = (frE b a, 0, [], 0) := by
  unfold frE
  by_cases h0 : a < 0 ∨ (b.length : Int) < a
  · rw [op_range h0]; right; rfl
  · obtain ⟨k, rfl⟩ : ∃ k : Nat, a = k := ⟨a.toNat, by omega⟩
    rw [op_in (by omega), frN]
    repeat (split; · right; rfl)
    left; rfl
/-- what Open accepts -/
theorem op_inv {b : List UInt8} {a : Int} (h : frE b a = 0) : ∃ k T N : Nat, a = (k : Int) ∧ Framed b k T N ∧ (b.drop (T + N)).take 4 = tail4 (crc ((b.drop k).take (T + N - k))) := by
  unfold frE at h
  by_cases h0 : a < 0 ∨ (b.length : Int) < a
  · rw [op_range h0] at h; cases h
  · obtain ⟨k, rfl⟩ : ∃ k : Nat, a = k := ⟨a.toNat, by omega⟩
    have hk : k ≤ b.length := by omega
    by_cases h1 : k = b.length
    · rw [op_end h1] at h; cases h
    · have hk' : k < b.length := by omega
      by_cases h2 : b[k].toNat = 76
      · by_cases h3 : k + 1 = b.length
        · rw [op_one hk' h2 h3] at h; cases h
        · have hk2 : k + 1 < b.length := by omega
          by_cases h4 : b[k + 1].toNat = 0
          · rw [op_zero hk2 h2 h4] at h; cases h
          · have hm := Marked.mk' hk2 h2 h4
            by_cases h5 : rdE b ((k + 2 : Nat) : Int) = 0
            · by_cases h6 : rdN b ((k + 2 : Nat) : Int) < 0 ∨ 1048576 < rdN b ((k + 2 : Nat) : Int)
              · rw [op_size hm h5 h6] at h; cases h
              · by_cases h7 : (b.length : Int) - rdT b ((k + 2 : Nat) : Int) < rdN b ((k + 2 : Nat) : Int) + 4
                · rw [op_short hm h5 h6 h7] at h; cases h
                · obtain ⟨T, N, hf⟩ := Framed.of hm h5 h6 h7
                  by_cases h8 : (b.drop (T + N)).take 4 = tail4 (crc ((b.drop k).take (T + N - k)))
                  · exact ⟨k, T, N, rfl, hf, h8⟩
                  · rw [op_sum hf h8] at h; cases h
            · rw [op_int hm h5] at h; exact absurd h h5
      · rw [op_mark hk' h2] at h; cases h
theorem op_next {b : List UInt8} {a : Int} (h : frE b a = 0) : 0 ≤ a ∧ a + 7 ≤ frT b a ∧ frT b a ≤ b.length := by
  obtain ⟨k, T, N, rfl, hf, h8⟩ := op_inv h
  unfold frT
  rw [op_ok hf h8]
  have := hf.lt
  have := hf.fit
  refine ⟨by omega, ?_, ?_⟩
  · show (k : Int) + 7 ≤ (T : Int) + N + 4; omega
  · show (T : Int) + N + 4 ≤ b.length; omega

theorem kind_byte {kind : Int} (h1 : 1 ≤ kind) (h2 : kind ≤ 255) : ((UInt8.ofNat kind.toNat).toNat : Int) = kind := by
  rw [UInt8.toNat_ofNat']; omega
/-- the parts of a frame behind other bytes -/
theorem framed_seal (l s : List UInt8) (kind : Int) (c : List UInt8) (h1 : 1 ≤ kind) (h2 : kind ≤ 255) (h3 : c.length ≤ 1048576) :
    Framed (l ++ (fseal kind c ++ s)) l.length (l.length + 2 + (enc c.length).length) c.length ∧
    ((l ++ (fseal kind c ++ s)).drop (l.length + 2 + (enc c.length).length + c.length)).take 4 = tail4 (crc (((l ++ (fseal kind c ++ s)).drop l.length).take (l.length + 2 + (enc c.length).length + c.length - l.length))) ∧
    ((l ++ (fseal kind c ++ s)).drop (l.length + 2 + (enc c.length).length)).take c.length = c ∧ (((l ++ (fseal kind c ++ s)).getD (l.length + 1) 0).toNat : Int) = kind := by
  have hk := kind_byte h1 h2
  have hl := enc_length (c.length : Int)
  have e1 : l ++ (fseal kind c ++ s) = (l ++ [76, UInt8.ofNat kind.toNat]) ++ (enc c.length ++ (c ++ (tail4 (crc (fmsg kind c)) ++ s))) := by
    simp [fseal, fmsg, fhead]
  have hll : (l ++ [76, UInt8.ofNat kind.toNat]).length = l.length + 2 := by simp
  obtain ⟨r1, r2, r3⟩ := enc_read (l ++ [76, UInt8.ofNat kind.toNat]) (c.length : Int) (c ++ (tail4 (crc (fmsg kind c)) ++ s)) (by omega) (by omega)
  rw [← e1, hll] at r1 r2 r3
  have hlen : (l ++ (fseal kind c ++ s)).length = l.length + (2 + (enc c.length).length + c.length + 4) + s.length := by
    rw [List.length_append, List.length_append, fseal_length]; omega
  have hg0 : (l ++ (fseal kind c ++ s)).getD l.length 0 = 76 := by
    have := getD_append_right l (fseal kind c ++ s) 0
    rw [Nat.add_zero] at this
    rw [this]; rfl
  have hg1 : (l ++ (fseal kind c ++ s)).getD (l.length + 1) 0 = UInt8.ofNat kind.toNat := by
    rw [getD_append_right l (fseal kind c ++ s) 1]; rfl
  have em : (l ++ (fseal kind c ++ s)) = l ++ (fmsg kind c ++ (tail4 (crc (fmsg kind c)) ++ s)) := by simp [fseal]
  have hml := fmsg_length kind c
  refine ⟨⟨⟨by omega, by rw [hg0]; rfl, by rw [hg1]; omega⟩, r1, r2, ?_, h3, by omega, by omega⟩, ?_, ?_, ?_⟩
  · rw [r3]
  · have d1 : (l ++ (fseal kind c ++ s)).drop (l.length + 2 + (enc c.length).length + c.length) = tail4 (crc (fmsg kind c)) ++ s := by
      rw [em, ← List.append_assoc, List.drop_left' (by rw [List.length_append, hml]; omega)]
    have d2 : ((l ++ (fseal kind c ++ s)).drop l.length).take (l.length + 2 + (enc c.length).length + c.length - l.length) = fmsg kind c := by
      rw [em, List.drop_left' rfl, List.take_left' (by rw [hml]; omega)]
    rw [d1, d2]
    exact List.take_left' rfl
  · rw [e1, ← List.append_assoc, List.drop_left' (by rw [List.length_append, hll]), List.take_left' rfl]
  · rw [hg1, hk]
theorem op_seal (l s : List UInt8) (kind : Int) (c : List UInt8) (h1 : 1 ≤ kind) (h2 : kind ≤ 255) (h3 : c.length ≤ 1048576) :
    frR (l ++ (fseal kind c ++ s)) (l.length : Int) = (0, kind, c, (((l ++ fseal kind c).length : Nat) : Int)) := by
  obtain ⟨hf, h8, hc, hk⟩ := framed_seal l s kind c h1 h2 h3
  rw [op_ok hf h8, hc, hk]
  have := fseal_length kind c
  simp only [Prod.mk.injEq, true_and, List.length_append]
  omega
/-- what is opened was sealed -/
theorem seal_op {b : List UInt8} {a : Int} (h : frE b a = 0) : 1 ≤ frK b a ∧ frK b a ≤ 255 ∧ (frC b a).length ≤ 1048576 ∧ (b.drop a.toNat).take ((frT b a).toNat - a.toNat) = fseal (frK b a) (frC b a) := by
  obtain ⟨k, T, N, rfl, hf, h8⟩ := op_inv h
  have h5 := hf.fit
  have h6 := hf.lt
  have h7 := hf.le
  obtain ⟨m0, m1, m2⟩ := hf.m
  have hr := read_enc hf.e
  rw [hf.t, hf.n, Int.toNat_natCast, Int.toNat_natCast] at hr
  unfold frK frC frT
  rw [op_ok hf h8]
  simp only [Int.toNat_natCast]
  have hb := (b.getD (k + 1) 0).toNat_lt
  have hcl : ((b.drop T).take N).length = N := by simp; omega
  refine ⟨by omega, by omega, by omega, ?_⟩
  -- the bytes from k on
  have e2 : b.drop k = 76 :: b.getD (k + 1) 0 :: b.drop (k + 2) := by
    rw [List.drop_eq_getElem_cons (show k < b.length by omega), List.drop_eq_getElem_cons (show k + 1 < b.length by omega)]
    have g0 : b[k] = 76 := by
      apply UInt8.toNat_inj.1
      have := m1; simp [List.getD, show k < b.length by omega] at this; rw [this]; rfl
    have g1 : b.getD (k + 1) 0 = b[k + 1] := by simp [List.getD, m0]
    rw [g0, g1]
  have e3 : (b.drop (k + 2)).take (T - (k + 2)) = enc N := by
    have := congrArg (List.drop (k + 2)) hr
    rw [List.drop_take] at this
    rw [this, List.drop_left' (by simp; omega)]
  have hel : (enc (N : Int)).length = T - (k + 2) := by rw [← e3]; simp; omega
  have e4 : (b.drop k).take (T + N - k) = fmsg ((b.getD (k + 1) 0).toNat : Int) ((b.drop T).take N) := by
    unfold fmsg fhead
    rw [hcl, Int.toNat_natCast, e2, show T + N - k = (T + N - (k + 2)) + 2 by omega]
    simp only [List.take_succ_cons, List.cons_append]
    rw [show UInt8.ofNat (b.getD (k + 1) 0).toNat = b.getD (k + 1) 0 by simp]
    congr 2
    rw [show T + N - (k + 2) = (T - (k + 2)) + N by omega, List.take_add, e3, List.drop_drop, show k + 2 + (T - (k + 2)) = T by omega]
  rw [show ((T : Int) + N + 4).toNat - k = (T + N - k) + 4 by omega, List.take_add, e4, List.drop_drop, show k + (T + N - k) = T + N by omega, h8, e4]
  rfl
/-- a frame that is cut is too short -/
theorem op_cut (l : List UInt8) (kind : Int) (c : List UInt8) (j : Nat) (h1 : 1 ≤ kind) (h2 : kind ≤ 255) (h3 : c.length ≤ 1048576) (hj : j < (fseal kind c).length) :
    frR (l ++ (fseal kind c).take j) (l.length : Int) = (4, 0, [], 0) := by
  have hk := kind_byte h1 h2
  have hl := enc_length (c.length : Int)
  have hs := fseal_length kind c
  have hlen : (l ++ (fseal kind c).take j).length = l.length + j := by simp; omega
  rcases Nat.eq_zero_or_pos j with h0 | h0
  · exact op_end (by omega)
  · have hg0 : ∀ (h : l.length < (l ++ (fseal kind c).take j).length), (l ++ (fseal kind c).take j)[l.length] = 76 := fun h => by
      rw [List.getElem_append_right (by omega)]
      simp [fseal, fmsg, fhead]
    rcases Nat.lt_or_ge j 2 with h4 | h4
    · exact op_one (by omega) (by rw [hg0 (by omega)]; rfl) (by omega)
    · have hg1 : ∀ (h : l.length + 1 < (l ++ (fseal kind c).take j).length), (l ++ (fseal kind c).take j)[l.length + 1] = UInt8.ofNat kind.toNat := fun h => by
        rw [List.getElem_append_right (by omega)]
        simp [fseal, fmsg, fhead]
      have hm : Marked (l ++ (fseal kind c).take j) l.length := Marked.mk' (by omega) (by rw [hg0 (by omega)]; rfl) (by rw [hg1 (by omega)]; omega)
      have e0 : fseal kind c = [76, UInt8.ofNat kind.toNat] ++ (enc c.length ++ (c ++ tail4 (crc (fmsg kind c)))) := by simp [fseal, fmsg, fhead]
      have e1 : l ++ (fseal kind c).take j = (l ++ [76, UInt8.ofNat kind.toNat]) ++ (enc c.length ++ (c ++ tail4 (crc (fmsg kind c)))).take (j - 2) := by
        rw [e0, List.take_append, List.take_of_length_le (by simpa using h4), List.append_assoc]; rfl
      have hll : (l ++ [76, UInt8.ofNat kind.toNat]).length = l.length + 2 := by simp
      rcases Nat.lt_or_ge (j - 2) (enc c.length).length with h5 | h5
      · have he : rdE (l ++ (fseal kind c).take j) ((l.length + 2 : Nat) : Int) = 4 := by
          rw [e1, List.take_append_of_le_length (by omega), ← hll]
          have hr := rdv_cut 9 10 0 (zig c.length) (j - 2) (by omega) (by omega) (by omega) (by have := zig_lt (n := (c.length : Int)) (by omega) (by omega); simpa using this) h5
          rw [rdE_in (by simp), List.drop_left' rfl]
          unfold enc
          rw [hr]; rfl
        rw [op_int hm (by rw [he]; omega), he]
      · obtain ⟨r1, r2, r3⟩ := enc_read (l ++ [76, UInt8.ofNat kind.toNat]) (c.length : Int) ((c ++ tail4 (crc (fmsg kind c))).take (j - 2 - (enc c.length).length)) (by omega) (by omega)
        have e2 : l ++ (fseal kind c).take j = (l ++ [76, UInt8.ofNat kind.toNat]) ++ (enc c.length ++ (c ++ tail4 (crc (fmsg kind c))).take (j - 2 - (enc c.length).length)) := by
          rw [e1, List.take_append, List.take_of_length_le h5]
        rw [← e2, hll] at r1 r2 r3
        refine op_short hm r1 (by rw [r2]; omega) ?_
        rw [r2, r3, hlen]; omega

/-! ### the checksum of a whole frame -/
theorem bitsOf_add (j : Nat) : ∀ (k c : Nat), bitsOf (j + k) c = bitsOf j c ++ bitsOf k (c / 2 ^ j) := by
  induction j with
  | zero => intro k c; simp [bitsOf]
  | succ j ih =>
    intro k c
    rw [show j + 1 + k = (j + k) + 1 by omega, bitsOf, bitsOf, ih, List.cons_append, Nat.div_div_eq_div_mul, Nat.pow_succ, Nat.mul_comm 2]
theorem bitsOf_mod (j : Nat) : ∀ c, bitsOf j (c % 2 ^ j) = bitsOf j c := by
  induction j with
  | zero => intro c; rfl
  | succ j ih =>
    intro c
    rw [bitsOf, bitsOf]
    have e1 : c % 2 ^ (j + 1) % 2 = c % 2 := by rw [Nat.pow_succ, Nat.mul_comm, Nat.mod_mul_right_mod]
    have e2 : c % 2 ^ (j + 1) / 2 = c / 2 % 2 ^ j := by rw [Nat.pow_succ, Nat.mul_comm, Nat.mod_mul_right_div_self]
    rw [e1, e2, ih]
theorem bitL_tail (n : Nat) : bitL (tail4 n) = bitsOf 32 n := by
  have hb : ∀ x, (UInt8.ofNat (x % 256)).toNat = x % 256 := fun x => by rw [UInt8.toNat_ofNat']; omega
  have h8 : ∀ c, bitsOf 8 (c % 256) = bitsOf 8 c := fun c => bitsOf_mod 8 c
  show bitsOf 8 _ ++ (bitsOf 8 _ ++ (bitsOf 8 _ ++ (bitsOf 8 _ ++ []))) = _
  rw [hb, hb, hb, hb, h8, h8, h8, h8, show (32 : Nat) = 8 + (8 + (8 + (8 + 0))) from rfl, bitsOf_add, bitsOf_add, bitsOf_add, bitsOf_add, Nat.div_div_eq_div_mul, Nat.div_div_eq_div_mul]
  rfl
theorem crc_residue (m : List UInt8) : creg (m ++ tail4 (crc m)) = cstepN 32 4294967295 := by
  unfold creg
  rw [List.foldl_append, fold_bits (tail4 _), bitL_tail, bits_step 32 _ _ (crc_lt m)]
  show cstepN 32 (creg m ^^^ (creg m ^^^ 4294967295)) = _
  rw [← Nat.xor_assoc, Nat.xor_self, Nat.zero_xor]
/-- two runs of bytes, each with its checksum behind it, that differ only among 32 consecutive bits are one -/
theorem sealed_burst (a b : List UInt8) (k : Nat) (hl : a.length = b.length) (hd : ∀ i, ¬ (k ≤ i ∧ i < k + 32) → (bitL (a ++ tail4 (crc a)))[i]? = (bitL (b ++ tail4 (crc b)))[i]?) : a = b := by
  have h : crc (a ++ tail4 (crc a)) = crc (b ++ tail4 (crc b)) := by unfold crc; rw [show creg (a ++ tail4 (creg a ^^^ 4294967295)) = _ from crc_residue a, show creg (b ++ tail4 (creg b ^^^ 4294967295)) = _ from crc_residue b]
  have := crc_burst _ _ k (by simp [tail4_length, hl]) hd h
  exact (List.append_inj this hl).1

/-! ### all frames -/
/-- at most f frames from an index on: kinds and contents, and where they end -/
def allF (b : List UInt8) : Nat → Int → List (Int × List UInt8) × Int
  | 0, q => ([], q)
  | f+1, q => if frE b q = 0 then ((frK b q, frC b q) :: (allF b f (frT b q)).1, (allF b f (frT b q)).2) else ([], q)
def allR (b : List UInt8) : List (Int × List UInt8) × Int := allF b (b.length + 1) 0
theorem allF_more (b : List UInt8) : ∀ (f g : Nat) (q : Int), 0 ≤ q → (b.length : Int) < q + f → f ≤ g → allF b g q = allF b f q := by
  intro f
  induction f with
  | zero =>
    intro g q h0 h1 _
    rcases g with _ | g
    · rfl
    · have : frE b q ≠ 0 := fun he => by have := op_next he; omega
      show (if frE b q = 0 then _ else _) = _
      rw [if_neg this]; rfl
  | succ f ih =>
    intro g q h0 h1 h2
    obtain ⟨g, rfl⟩ : ∃ g', g = g' + 1 := ⟨g - 1, by omega⟩
    rw [allF, allF]
    by_cases he : frE b q = 0
    · rw [if_pos he, if_pos he]
      have := op_next he
      rw [ih g (frT b q) (by omega) (by omega) (by omega)]
    · rw [if_neg he, if_neg he]
end Go.Proofs.YtcomeidcmcegfaaDoor

namespace Go.Proofs.YtcomeidcmcegfaaDoor
open Go.RowKit
set_option linter.unusedVariables false

/-! ### Hex and Unhex -/
theorem hexVal_dig (d : Nat) (h : d < 16) : hexVal (hexDig d) = some d := by
  have k : ∀ d : Fin 16, hexVal (hexDig d.val) = some d.val := by decide
  exact k ⟨d, h⟩
theorem hexDig_val (c : UInt8) (d : Nat) (h : hexVal c = some d) : hexDig d = c := by
  unfold hexVal at h
  apply UInt8.toNat_inj.1
  split at h
  · injection h; subst d
    unfold hexDig; rw [if_pos (by omega), UInt8.toNat_ofNat']; omega
  · split at h
    · injection h; subst d
      unfold hexDig; rw [if_neg (by omega), UInt8.toNat_ofNat']; omega
    · cases h
theorem hv_hexL (j : Nat) : ∀ x y, (hexL j x).foldl hvStep (some y) = some (y * 16 ^ j + x % 16 ^ j) := by
  induction j with
  | zero => intro x y; simp [hexL, Nat.mod_one]
  | succ j ih =>
    intro x y
    have hs : hvStep (some y) (hexDig (x / 16 ^ j % 16)) = some (16 * y + x / 16 ^ j % 16) := by
      simp [hvStep, hexVal_dig _ (Nat.mod_lt _ (by omega : 0 < 16))]
    rw [hexL, List.foldl_cons, hs, ih]
    congr 1
    rw [Nat.mod_pow_succ, Nat.pow_succ, Nat.add_mul, Nat.mul_comm (16 ^ j) 16, ← Nat.mul_assoc, Nat.mul_comm y 16, Nat.mul_comm (16 ^ j) (x / 16 ^ j % 16)]
    omega
theorem unhex_hex (n : Int) : unhex (hex n) = some (low62 n) := by
  have h := low62_lt n
  have h1 : hvs (hex n) = some (low62 n) := by
    unfold hvs hex; rw [hv_hexL, Nat.mod_eq_of_lt (Nat.lt_trans h (by decide))]; simp
  unfold unhex
  rw [if_pos (show (hex n).length = 16 from hexL_length 16 _), h1, Option.filter, if_pos]
  simpa using h
theorem hexL_hv (l : List UInt8) : ∀ x y, l.foldl hvStep (some y) = some x → hexL l.length x = l := by
  induction l with
  | nil => intro x y _; rfl
  | cons c l ih =>
    intro x y h
    rw [List.foldl_cons] at h
    rcases hc : hexVal c with _ | d
    · simp [hvStep, hc, hvFold_none] at h
    · have hd := hexVal_lt hc
      have hs : hvStep (some y) c = some (16 * y + d) := by simp [hvStep, hc]
      rw [hs] at h
      have hb := hvFold_ge l _ _ h
      have hq : x / 16 ^ l.length = 16 * y + d := Nat.div_eq_of_lt_le hb.1 hb.2
      rw [List.length_cons, hexL, ih x _ h, hq, show (16 * y + d) % 16 = d by omega, hexDig_val c d hc]
theorem hex_unhex (l : List UInt8) (k : Nat) (h : unhex l = some k) : hex (k : Int) = l := by
  unfold unhex at h
  split at h
  · rename_i h16
    rw [Option.filter_eq_some_iff] at h
    have h1 := h.1
    have h2 : k < 4611686018427387904 := by simpa using h.2
    have h3 := hexL_hv l k 0 h1
    have h4 : low62 (k : Int) = k := by unfold low62; omega
    unfold hex
    rw [h4, ← h16, h3]
  · cases h

/-! ### the hash -/
theorem mul_back (z : Nat) (h : z < 4611686018427387904) : z * 1099511628211 % 4611686018427387904 * 1051115900582139259 % 4611686018427387904 = z := by
  rw [Nat.mod_mul_mod, Nat.mul_assoc, ← Nat.mul_mod_mod]
  rw [show 1099511628211 * 1051115900582139259 % 4611686018427387904 = 1 by decide +kernel, Nat.mul_one, Nat.mod_eq_of_lt h]
theorem hstep_inj {x y : Nat} {c d : UInt8} (hx : x < 4611686018427387904) (hy : y < 4611686018427387904) (h : hstep x c = hstep y d) : x ^^^ c.toNat = y ^^^ d.toNat := by
  have h1 : x ^^^ c.toNat < 4611686018427387904 := Nat.xor_lt_two_pow (n := 62) hx (by have := c.toNat_lt; omega)
  have h2 : y ^^^ d.toNat < 4611686018427387904 := Nat.xor_lt_two_pow (n := 62) hy (by have := d.toNat_lt; omega)
  unfold hstep at h
  rw [← mul_back _ h1, h, mul_back _ h2]
theorem hfold_inj (l : List UInt8) : ∀ x y, x < 4611686018427387904 → y < 4611686018427387904 → l.foldl hstep x = l.foldl hstep y → x = y := by
  induction l with
  | nil => intro x y _ _ h; exact h
  | cons c l ih =>
    intro x y hx hy h
    rw [List.foldl_cons, List.foldl_cons] at h
    exact xor_inj (hstep_inj hx hy (ih _ _ (hstep_lt _ _) (hstep_lt _ _) h))
theorem more_iff (g h : Int) (l : List UInt8) : more g l = more h l ↔ low62 g = low62 h := by
  constructor
  · intro e; exact hfold_inj l _ _ (low62_lt g) (low62_lt h) e
  · intro e; unfold more; rw [e]
theorem hfold_lt (l : List UInt8) : ∀ x, x < 4611686018427387904 → l.foldl hstep x < 4611686018427387904 := by
  induction l with
  | nil => intro x h; exact h
  | cons c l ih => intro x h; rw [List.foldl_cons]; exact ih _ (hstep_lt _ _)
theorem hash_one (p s : List UInt8) (c d : UInt8) (h : hash (p ++ c :: s) = hash (p ++ d :: s)) : c = d := by
  unfold hash more at h
  rw [List.foldl_append, List.foldl_append, List.foldl_cons, List.foldl_cons] at h
  have h0 := hfold_lt p _ (low62_lt 860922984064492325)
  have h1 := hstep_inj h0 h0 (hfold_inj s _ _ (hstep_lt _ _) (hstep_lt _ _) h)
  rw [Nat.xor_comm, Nat.xor_comm _ d.toNat] at h1
  exact UInt8.toNat_inj.1 (xor_inj h1)

/-! ### bytes that are changed -/
theorem bitL_get (l : List UInt8) : ∀ i, (bitL l)[i]? = (l[i / 8]?).bind fun c => (bitsOf 8 c.toNat)[i % 8]? := by
  induction l with
  | nil => intro i; simp [bitL]
  | cons c l ih =>
    intro i
    have e : bitL (c :: l) = bitsOf 8 c.toNat ++ bitL l := by simp [bitL]
    rw [e]
    by_cases hi : i < 8
    · rw [List.getElem?_append_left (by rw [bitsOf_length]; exact hi), show i / 8 = 0 by omega, show i % 8 = i by omega]; rfl
    · rw [List.getElem?_append_right (by rw [bitsOf_length]; omega), bitsOf_length, ih, show i / 8 = (i - 8) / 8 + 1 by omega, List.getElem?_cons_succ, show (i - 8) % 8 = i % 8 by omega]
theorem crc_burst4 (a b : List UInt8) (k : Nat) (hl : a.length = b.length) (hd : ∀ i, ¬ (k ≤ i ∧ i < k + 4) → a[i]? = b[i]?) (h : crc a = crc b) : a = b := by
  refine crc_burst a b (8 * k) hl (fun i hi => ?_) h
  rw [bitL_get, bitL_get, hd (i / 8) (by omega)]

/-- the bytes after the first i rounds of 'changed' -/
def chg (b : List UInt8) (at_ : Int) (x : List UInt8) : Nat → List UInt8
  | 0 => b
  | i+1 => if 0 ≤ at_ ∧ at_ < b.length ∧ (i : Int) < b.length - at_ then (chg b at_ x i).set (at_.toNat + i) ((chg b at_ x i).getD (at_.toNat + i) 0 ^^^ x.getD i 0) else chg b at_ x i
theorem chg_length (b : List UInt8) (at_ : Int) (x : List UInt8) (i : Nat) : (chg b at_ x i).length = b.length := by
  induction i with
  | zero => rfl
  | succ i ih => rw [chg]; split <;> simp [ih]
theorem chg_far (b : List UInt8) (at_ : Int) (x : List UInt8) (i j : Nat) (h : ¬ (at_.toNat ≤ j ∧ j < at_.toNat + i)) : (chg b at_ x i)[j]? = b[j]? := by
  induction i with
  | zero => rfl
  | succ i ih =>
    rw [chg]; split
    · rw [List.getElem?_set_ne (by omega)]; exact ih (by omega)
    · exact ih (by omega)
theorem chg_burst (b : List UInt8) (at_ : Int) (x : List UInt8) : crc b = crc (chg b at_ x 4) ↔ b = chg b at_ x 4 := by
  constructor
  · intro h
    exact crc_burst4 b _ at_.toNat (chg_length b at_ x 4).symm (fun i hi => (chg_far b at_ x 4 i hi).symm) h
  · intro h; rw [← h]
theorem set_getD_self (l : List UInt8) (k : Nat) : l.set k (l.getD k 0) = l := by
  by_cases hk : k < l.length
  · rw [show l.getD k 0 = l[k] by simp [List.getD, hk], List.set_getElem_self]
  · exact List.set_eq_of_length_le (by omega)
theorem chg_tail (b : List UInt8) (at_ : Int) (x : UInt8) (i : Nat) : chg b at_ [x, 0, 0, 0] (i + 1) = chg b at_ [x, 0, 0, 0] 1 := by
  induction i with
  | zero => rfl
  | succ i ih =>
    rw [chg]; split
    · have hx : ([x, 0, 0, 0] : List UInt8).getD (i + 1) 0 = 0 := by
        rcases i with _ | _ | _ | i <;> simp
      rw [hx, UInt8.xor_zero, ih]
      exact set_getD_self _ _
    · exact ih
theorem chg_hash (b : List UInt8) (at_ : Int) (x : UInt8) : hash b = hash (chg b at_ [x, 0, 0, 0] 4) ↔ b = chg b at_ [x, 0, 0, 0] 4 := by
  constructor
  · rw [chg_tail b at_ x 3]
    intro h
    rw [chg] at h ⊢
    split at h
    · rename_i hc
      rw [if_pos hc]
      have hk : at_.toNat < b.length := by omega
      simp only [Nat.add_zero, chg] at h ⊢
      generalize at_.toNat = k at *
      have hg : b.getD k 0 = b[k] := by simp [List.getD, hk]
      rw [hg] at h ⊢
      have hb : b = b.take k ++ b[k] :: b.drop (k + 1) := by
        rw [← List.drop_eq_getElem_cons hk, List.take_append_drop]
      have hs : b.set k (b[k] ^^^ x) = b.take k ++ (b[k] ^^^ x) :: b.drop (k + 1) := by rw [List.set_eq_take_append_cons_drop, if_pos hk]
      have hx : ([x, 0, 0, 0] : List UInt8).getD 0 0 = x := rfl
      rw [hx] at h ⊢
      have h1 : hash (b.take k ++ b[k] :: b.drop (k + 1)) = hash (b.take k ++ (b[k] ^^^ x) :: b.drop (k + 1)) := by rw [← hb, ← hs]; exact h
      rw [← hash_one _ _ _ _ h1, List.set_getElem_self]
    · rename_i hc
      rw [if_neg hc]; rfl
  · intro h; rw [← h]
end Go.Proofs.YtcomeidcmcegfaaDoor

namespace Go.Proofs.YtcomeidcmcegfaaDoor
open Go.RowKit
set_option linter.unusedVariables false

/-! ### inverted bits -/
/-- the bytes behind j rounds: bit number at_ + i is inverted where bit i of the pattern is set -/
def flips (s : List UInt8) (at_ pat : Nat) : Nat → List UInt8
  | 0 => s
  | j+1 => if pat / 2 ^ j % 2 = 1 then (flips s at_ pat j).set ((at_ + j) / 8) ((flips s at_ pat j).getD ((at_ + j) / 8) 0 ^^^ UInt8.ofNat (2 ^ ((at_ + j) % 8))) else flips s at_ pat j
theorem flips_length (s : List UInt8) (at_ pat j : Nat) : (flips s at_ pat j).length = s.length := by
  induction j with
  | zero => rfl
  | succ j ih => rw [flips]; split <;> simp [ih]
theorem bitsOf_get (k : Nat) : ∀ (c i : Nat), (bitsOf k c)[i]? = if i < k then some (c / 2 ^ i % 2) else none := by
  induction k with
  | zero => intro c i; simp [bitsOf]
  | succ k ih =>
    intro c i
    rcases i with _ | i
    · simp [bitsOf]
    · rw [bitsOf, List.getElem?_cons_succ, ih, Nat.div_div_eq_div_mul, Nat.pow_succ, Nat.mul_comm 2]
      simp
theorem xor_bit (c r i : Nat) : (c ^^^ 2 ^ r) / 2 ^ i % 2 = if i = r then 1 - c / 2 ^ i % 2 else c / 2 ^ i % 2 := by
  have ht : ∀ x : Nat, x / 2 ^ i % 2 = (x.testBit i).toNat := fun x => by rw [Nat.testBit_eq_decide_div_mod_eq]; rcases Nat.mod_two_eq_zero_or_one (x / 2 ^ i) with h | h <;> simp [h]
  rw [ht, ht, Nat.testBit_xor, Nat.testBit_two_pow]
  by_cases h : i = r
  · subst h; simp; cases c.testBit i <;> rfl
  · have : ¬ r = i := fun e => h e.symm
    simp [h, this]
/-- one byte with one bit inverted -/
theorem bit_set (s : List UInt8) (q r : Nat) (hr : r < 8) (hq : q < s.length) (t : Nat) :
    (bitL (s.set q (s.getD q 0 ^^^ UInt8.ofNat (2 ^ r))))[t]? = if t = 8 * q + r then (bitL s)[t]?.map (fun b => 1 - b) else (bitL s)[t]? := by
  rw [bitL_get, bitL_get, List.getElem?_set]
  have h2 : (UInt8.ofNat (2 ^ r)).toNat = 2 ^ r := by
    have : 2 ^ r ≤ 2 ^ 7 := Nat.pow_le_pow_right (by omega) (by omega)
    rw [UInt8.toNat_ofNat', Nat.mod_eq_of_lt (by omega)]
  by_cases hq' : q = t / 8
  · subst hq'
    rw [if_pos rfl, if_pos hq, List.getElem?_eq_getElem hq]
    have hg : s.getD (t / 8) 0 = s[t / 8] := by simp [List.getD, hq]
    simp only [Option.bind_some, hg, UInt8.toNat_xor, h2, bitsOf_get, xor_bit]
    have h8 : t % 8 < 8 := Nat.mod_lt _ (by omega)
    simp only [if_pos h8, Option.map_some]
    by_cases hr' : t % 8 = r
    · rw [if_pos hr', if_pos (by omega)]
    · rw [if_neg hr', if_neg (by omega)]
  · rw [if_neg hq', if_neg (by omega)]
theorem flips_bits (s : List UInt8) (at_ pat : Nat) : ∀ (j t : Nat), (∀ i, i < j → pat / 2 ^ i % 2 = 1 → (at_ + i) / 8 < s.length) →
    (bitL (flips s at_ pat j))[t]? = if at_ ≤ t ∧ t < at_ + j ∧ pat / 2 ^ (t - at_) % 2 = 1 then (bitL s)[t]?.map (fun b => 1 - b) else (bitL s)[t]? := by
  intro j
  induction j with
  | zero => intro t _; rw [if_neg (by omega)]; rfl
  | succ j ih =>
    intro t h
    have ih' := ih t (fun i hi => h i (by omega))
    rw [flips]
    by_cases hp : pat / 2 ^ j % 2 = 1
    · rw [if_pos hp, bit_set _ _ _ (Nat.mod_lt _ (by omega)) (by rw [flips_length]; exact h j (by omega) hp), ih']
      by_cases ht : t = at_ + j
      · subst ht
        rw [if_pos (by omega), if_neg (by omega), if_pos ⟨by omega, by omega, by rw [Nat.add_sub_cancel_left]; exact hp⟩]
      · rw [if_neg (by omega)]
        by_cases hc : at_ ≤ t ∧ t < at_ + j ∧ pat / 2 ^ (t - at_) % 2 = 1
        · rw [if_pos hc, if_pos ⟨hc.1, by omega, hc.2.2⟩]
        · rw [if_neg hc, if_neg (fun h2 => hc ⟨h2.1, by omega, h2.2.2⟩)]
    · rw [if_neg hp, ih']
      by_cases ht : t = at_ + j
      · subst ht
        rw [if_neg (by omega), if_neg (by rw [Nat.add_sub_cancel_left]; omega)]
      · by_cases hc : at_ ≤ t ∧ t < at_ + j ∧ pat / 2 ^ (t - at_) % 2 = 1
        · rw [if_pos hc, if_pos ⟨hc.1, by omega, hc.2.2⟩]
        · rw [if_neg hc, if_neg (fun h2 => hc ⟨h2.1, by omega, h2.2.2⟩)]
theorem flips_far (s : List UInt8) (at_ pat : Nat) : ∀ (j q : Nat), (∀ i, i < j → pat / 2 ^ i % 2 = 1 → (at_ + i) / 8 ≠ q) → (flips s at_ pat j)[q]? = s[q]? := by
  intro j
  induction j with
  | zero => intro q _; rfl
  | succ j ih =>
    intro q h
    have ih' := ih q (fun i hi => h i (by omega))
    rw [flips]
    by_cases hp : pat / 2 ^ j % 2 = 1
    · rw [if_pos hp, List.getElem?_set_ne (h j (by omega) hp)]; exact ih'
    · rw [if_neg hp]; exact ih'
theorem some_bit (n : Nat) : ∀ (pat : Nat), pat < 2 ^ n → pat ≠ 0 → ∃ i, i < n ∧ pat / 2 ^ i % 2 = 1 := by
  induction n with
  | zero => intro pat h h0; omega
  | succ n ih =>
    intro pat h h0
    rcases Nat.mod_two_eq_zero_or_one pat with h2 | h2
    · obtain ⟨i, hi, hb⟩ := ih (pat / 2) (by rw [Nat.pow_succ] at h; omega) (by omega)
      exact ⟨i + 1, by omega, by rw [Nat.pow_succ, Nat.mul_comm, ← Nat.div_div_eq_div_mul]; exact hb⟩
    · exact ⟨0, by omega, by simpa using h2⟩
theorem flips_ne (s : List UInt8) (at_ pat : Nat) (hp : pat < 4294967296) (h0 : pat ≠ 0) (h : ∀ i, i < 32 → pat / 2 ^ i % 2 = 1 → (at_ + i) / 8 < s.length) : flips s at_ pat 32 ≠ s := by
  intro he
  obtain ⟨i, hi, hb⟩ := some_bit 32 pat hp h0
  have h1 := flips_bits s at_ pat 32 (at_ + i) h
  rw [he, if_pos ⟨by omega, by omega, by rw [Nat.add_sub_cancel_left]; exact hb⟩] at h1
  have hl : at_ + i < (bitL s).length := by rw [bitL_length]; have := h i hi hb; omega
  rw [List.getElem?_eq_getElem hl, Option.map_some] at h1
  injection h1 with h1
  have := bitL_le s _ (List.getElem_mem hl)
  omega
/-- bits inverted among 32 consecutive ones, none of them of the length, are noticed -/
theorem op_burst (kind : Int) (c : List UInt8) (at_ pat : Nat) (h1 : 1 ≤ kind) (h2 : kind ≤ 255) (h3 : c.length ≤ 1048576) (hp : pat < 4294967296) (h0 : pat ≠ 0)
    (h : ∀ i, i < 32 → pat / 2 ^ i % 2 = 1 → (at_ + i) / 8 < (fseal kind c).length ∧ ¬ (2 ≤ (at_ + i) / 8 ∧ (at_ + i) / 8 < (fseal kind c).length - 4 - c.length)) : frE (flips (fseal kind c) at_ pat 32) 0 ≠ 0 := by
  intro he
  have hs := fseal_length kind c
  have hlx := flips_length (fseal kind c) at_ pat 32
  have hne := flips_ne (fseal kind c) at_ pat hp h0 (fun i hi hb => (h i hi hb).1)
  have hmid : ∀ q, 2 ≤ q → q < 2 + (enc c.length).length → (flips (fseal kind c) at_ pat 32)[q]? = (fseal kind c)[q]? := fun q q1 q2 => flips_far _ _ _ _ _ (fun i hi hb e => by have := (h i hi hb).2; omega)
  have hout : ∀ i, ¬ (at_ ≤ i ∧ i < at_ + 32) → (bitL (flips (fseal kind c) at_ pat 32))[i]? = (bitL (fseal kind c))[i]? := fun i hi => by
    rw [flips_bits _ _ _ _ _ (fun i hi hb => (h i hi hb).1), if_neg (fun h => hi ⟨h.1, h.2.1⟩)]
  generalize hX : flips (fseal kind c) at_ pat 32 = x at *
  obtain ⟨k, T, N, hk, hf, h8⟩ := op_inv he
  obtain rfl : k = 0 := by omega
  have e0 : fseal kind c = [76, UInt8.ofNat kind.toNat] ++ (enc c.length ++ (c ++ tail4 (crc (fmsg kind c)))) := by simp [fseal, fmsg, fhead]
  have ex : x = x.take 2 ++ (enc c.length ++ x.drop (2 + (enc c.length).length)) := by
    have hm : (x.drop 2).take (enc c.length).length = enc c.length := by
      apply List.ext_getElem?; intro i
      by_cases hi : i < (enc c.length).length
      · rw [List.getElem?_take_of_lt hi, List.getElem?_drop, hmid _ (by omega) (by omega), e0, List.getElem?_append_right (by simp), List.getElem?_append_left (by simpa using hi)]
        simp
      · rw [List.getElem?_eq_none (by simp; omega), List.getElem?_eq_none (by omega)]
    conv => lhs; rw [← List.take_append_drop 2 x, ← List.take_append_drop (enc c.length).length (x.drop 2), hm, List.drop_drop]
  obtain ⟨r1, r2, r3⟩ := enc_read (x.take 2) (c.length : Int) (x.drop (2 + (enc c.length).length)) (by omega) (by omega)
  have h2l : (x.take 2).length = 2 := by simp; omega
  rw [← ex, h2l] at r2 r3
  have hN : N = c.length := by have := hf.n; rw [r2] at this; omega
  have hT : T = 2 + (enc c.length).length := by have := hf.t; rw [r3] at this; omega
  subst hN hT
  rw [List.drop_zero, Nat.sub_zero] at h8
  have hxl : x.length = 2 + (enc c.length).length + c.length + 4 := by omega
  have e1 : x = x.take (2 + (enc c.length).length + c.length) ++ tail4 (crc (x.take (2 + (enc c.length).length + c.length))) := by
    have h4 : (x.drop (2 + (enc c.length).length + c.length)).take 4 = x.drop (2 + (enc c.length).length + c.length) := List.take_of_length_le (by simp; omega)
    rw [h4] at h8
    rw [← h8, List.take_append_drop]
  have := sealed_burst (x.take (2 + (enc c.length).length + c.length)) (fmsg kind c) at_ (by rw [fmsg_length]; simp; omega) (fun i hi => by rw [← e1]; exact hout i hi)
  apply hne
  rw [e1, this]; rfl

/-! ### frames one after the other -/
def flat (ps : List (Int × List UInt8)) : List UInt8 := ps.flatMap fun p => fseal p.1 p.2
/-- the frames that are complete among c bytes, and where they end -/
def whole : List (Int × List UInt8) → Nat → List (Int × List UInt8) × Nat
  | [], _ => ([], 0)
  | p :: ps, c => if (fseal p.1 p.2).length ≤ c then (p :: (whole ps (c - (fseal p.1 p.2).length)).1, (fseal p.1 p.2).length + (whole ps (c - (fseal p.1 p.2).length)).2) else ([], 0)
def Right1 (p : Int × List UInt8) : Prop := 1 ≤ p.1 ∧ p.1 ≤ 255 ∧ p.2.length ≤ 1048576
theorem all_cut : ∀ (ps : List (Int × List UInt8)) (l : List UInt8) (c f : Nat), (∀ p ∈ ps, Right1 p) → ps.length < f →
    allF (l ++ (flat ps).take c) f (l.length : Int) = ((whole ps c).1, (((l.length + (whole ps c).2 : Nat)) : Int)) := by
  intro ps
  induction ps with
  | nil =>
    intro l c f _ hf
    obtain ⟨f, rfl⟩ : ∃ f', f = f' + 1 := ⟨f - 1, by simp at hf; omega⟩
    have h0 : frE (l ++ (flat []).take c) (l.length : Int) = 4 := by unfold frE; rw [op_end (by simp [flat])]
    rw [allF, if_neg (by rw [h0]; omega)]
    rfl
  | cons p ps ih =>
    intro l c f hr hf
    obtain ⟨f, rfl⟩ : ∃ f', f = f' + 1 := ⟨f - 1, by simp at hf; omega⟩
    obtain ⟨r1, r2, r3⟩ := hr p (by simp)
    have ef : flat (p :: ps) = fseal p.1 p.2 ++ flat ps := by simp [flat]
    rw [ef, whole]
    by_cases hc : (fseal p.1 p.2).length ≤ c
    · rw [if_pos hc, List.take_append, List.take_of_length_le hc]
      have ho := op_seal l ((flat ps).take (c - (fseal p.1 p.2).length)) p.1 p.2 r1 r2 r3
      have ih' := ih (l ++ fseal p.1 p.2) (c - (fseal p.1 p.2).length) f (fun q hq => hr q (List.mem_cons_of_mem _ hq)) (by simp at hf; omega)
      rw [List.append_assoc] at ih'
      have hE : frE (l ++ (fseal p.1 p.2 ++ (flat ps).take (c - (fseal p.1 p.2).length))) (l.length : Int) = 0 := by unfold frE; rw [ho]
      rw [allF, if_pos hE]
      unfold frK frC frT
      rw [ho]
      simp only []
      rw [ih']
      simp only [List.length_append, Nat.add_assoc]
    · rw [if_neg hc, List.take_append_of_le_length (by omega)]
      have ho := op_cut l p.1 p.2 c r1 r2 r3 (by omega)
      have hE : frE (l ++ (fseal p.1 p.2).take c) (l.length : Int) = 4 := by unfold frE; rw [ho]
      rw [allF, if_neg (by rw [hE]; omega)]
      rfl
theorem flat_snoc (ps : List (Int × List UInt8)) (p : Int × List UInt8) : flat (ps ++ [p]) = flat ps ++ fseal p.1 p.2 := by simp [flat]
theorem whole_all : ∀ (ps : List (Int × List UInt8)) (c : Nat), (flat ps).length ≤ c → whole ps c = (ps, (flat ps).length) := by
  intro ps
  induction ps with
  | nil => intro c _; rfl
  | cons p ps ih =>
    intro c h
    have ef : flat (p :: ps) = fseal p.1 p.2 ++ flat ps := by simp [flat]
    rw [ef, List.length_append] at h
    rw [whole, if_pos (by omega), ih _ (by omega), ef, List.length_append]
theorem whole_snoc : ∀ (ps : List (Int × List UInt8)) (p : Int × List UInt8) (c : Nat), ¬ (flat (ps ++ [p])).length ≤ c → whole (ps ++ [p]) c = whole ps c := by
  intro ps
  induction ps with
  | nil =>
    intro p c h
    have : ¬ (fseal p.1 p.2).length ≤ c := by simpa [flat] using h
    show (if (fseal p.1 p.2).length ≤ c then _ else _) = _
    rw [if_neg this]; rfl
  | cons q ps ih =>
    intro p c h
    have ef : flat (q :: ps ++ [p]) = fseal q.1 q.2 ++ flat (ps ++ [p]) := by simp [flat]
    rw [ef, List.length_append] at h
    rw [List.cons_append, whole, whole]
    by_cases hc : (fseal q.1 q.2).length ≤ c
    · rw [if_pos hc, if_pos hc, ih p _ (by omega)]
    · rw [if_neg hc, if_neg hc]
end Go.Proofs.YtcomeidcmcegfaaDoor
