/-
  Plain lemmas of layer 4: the bit operations of the reader and the writer of numbers, and the state of the reading loop. Conditions: none; no program in sight.
-/
import Derived.Test.YtfjiikcbcoohdaaDoorWirePlain
import Derived.Laws.DeepNot64
namespace Go.Proofs.YtfjiikcbcoohdaaDoor
open Go.RowKit
set_option linter.unusedVariables false

theorem rdv_err : ∀ (f i : Nat) (s : List UInt8), (rdv f i s).1 ≠ 0 → (rdv f i s).2 = (0, 0) := by
  intro f
  induction f with
  | zero => intro i s _; rfl
  | succ f ih =>
    intro i s h
    rcases s with _ | ⟨c, s⟩
    · rfl
    · rw [rdv] at h ⊢
      split at h
      · rename_i h1
        rw [if_pos h1]
        split at h
        · exact absurd rfl h
        · rename_i h2; rw [if_neg h2]
      · rename_i h1
        rw [if_neg h1]
        split at h
        · rename_i h2; rw [if_pos h2]
        · exact absurd rfl h

/-- the state of the loop in Int: j digits are read -/
def Reads (b : List UInt8) (k j v : Nat) : Prop := j ≤ 10 ∧ k + j ≤ b.length ∧ (j = 10 ∨ v < 128 ^ j) ∧ comb v j (rdv (10 - j) j (b.drop (k + j))) = rdv 10 0 (b.drop k)

/-- x | y << 7 j, of 64 bits -/
def nextX (v d j : Nat) : Nat := v ||| (d * 2 ^ (7 * j)) % 18446744073709551616
theorem pow128 (j : Nat) : 128 ^ j = 2 ^ (7 * j) := by rw [Nat.pow_mul]
theorem pow128_le {j : Nat} (h : j ≤ 9) : 128 ^ j ≤ 9223372036854775808 := by
  have : 128 ^ j ≤ 128 ^ 9 := Nat.pow_le_pow_right (by omega) h
  simpa using this
theorem nextX_eq (v d j : Nat) (hv : v < 128 ^ j) (hj : j ≤ 9) (hd : d < 128) (h9 : j = 9 → d ≤ 1) : nextX v d j = v + 128 ^ j * d := by
  have hp := pow128_le hj
  have hlt : d * 2 ^ (7 * j) < 18446744073709551616 := by
    rw [← pow128]
    rcases Nat.lt_or_ge j 9 with h | h
    · have h8 : 128 ^ j ≤ 128 ^ 8 := Nat.pow_le_pow_right (by omega) (by omega)
      have : d * 128 ^ j ≤ 127 * 128 ^ 8 := Nat.mul_le_mul (by omega) h8
      omega
    · obtain rfl : j = 9 := by omega
      have : d * 128 ^ 9 ≤ 1 * 128 ^ 9 := Nat.mul_le_mul_right _ (h9 rfl)
      omega
  unfold nextX
  rw [Nat.mod_eq_of_lt hlt, Nat.or_comm, nat_join (7 * j) _ _ (by simp) (by rw [← pow128]; exact hv), pow128, Nat.mul_comm d]
  omega
theorem nextX_lt (v d j : Nat) (hv : v < 18446744073709551616) : nextX v d j < 18446744073709551616 :=
  Nat.or_lt_two_pow (n := 64) (by omega) (by have := Nat.mod_lt (d * 2 ^ (7 * j)) (show 0 < 18446744073709551616 by omega); omega)

theorem comb_bad (v i i' : Nat) (s : List UInt8) : comb v i (rdv 0 i' s) = (3, 0, 0) := rfl
theorem comb_err (v i e : Nat) (h : e ≠ 0) : comb v i (e, 0, 0) = (e, 0, 0) := by unfold comb; rw [if_neg h]
theorem Reads.start (b : List UInt8) (k : Nat) (h : k ≤ b.length) : Reads b k 0 0 :=
  ⟨by omega, by omega, by simp, by rw [Nat.sub_zero, Nat.add_zero]; exact comb_start _ (rdv_err _ _ _)⟩
theorem Reads.lt {b : List UInt8} {k j v : Nat} (h : Reads b k j v) (hj : j < 10) : v < 18446744073709551616 := by
  rcases h.2.2.1 with h1 | h1
  · omega
  · have := pow128_le (show j ≤ 9 by omega); omega
theorem Reads.at {b : List UInt8} {k j v : Nat} (h : Reads b k j v) (hj : j < 10) (hin : k + j < b.length) :
    comb v j (rdv (9 - j + 1) j (b[k + j] :: b.drop (k + j + 1))) = rdv 10 0 (b.drop k) := by
  rw [← List.drop_eq_getElem_cons hin, show 9 - j + 1 = 10 - j by omega]; exact h.2.2.2
theorem Reads.next {b : List UInt8} {k j v ch d : Nat} (h : Reads b k j v) (hj : j < 10) (hin : k + j < b.length) (hc : b[k + j].toNat = ch) (h8 : 128 ≤ ch) (hd : d = ch % 128) :
    Reads b k (j + 1) (nextX v d j) := by
  have hlt := b[k + j].toNat_lt
  have he := h.at hj hin
  rw [comb_next _ _ _ _ _ (by omega)] at he
  rcases Nat.lt_or_ge j 9 with h9 | h9
  · have hv : v < 128 ^ j := by rcases h.2.2.1 with h1 | h1 <;> omega
    have e := nextX_eq v d j hv (by omega) (by omega) (by omega)
    refine ⟨by omega, by omega, .inr ?_, ?_⟩
    · rw [e, Nat.pow_succ]
      have : 128 ^ j * d ≤ 128 ^ j * 127 := Nat.mul_le_mul_left _ (by omega)
      omega
    · rw [e, show d = b[k + j].toNat - 128 by omega, show 10 - (j + 1) = 9 - j by omega, show k + (j + 1) = k + j + 1 by omega]
      exact he
  · obtain rfl : j = 9 := by omega
    refine ⟨by omega, by omega, .inl rfl, ?_⟩
    rw [show 10 - (9 + 1) = 0 from rfl, comb_bad]
    rw [show 9 - 9 = 0 from rfl, comb_bad] at he
    exact he
theorem rd_of {b : List UInt8} {k e n t : Nat} (hk : k ≤ b.length) (h : rdv 10 0 (b.drop k) = (e, n, t)) (he : e ≠ 0) : rdE b (k : Int) = (e : Nat) ∧ rdN b (k : Int) = 0 ∧ rdT b (k : Int) = 0 := by
  have h1 : rdE b (k : Int) = (e : Nat) := by rw [rdE_in hk, h]
  refine ⟨h1, ?_, ?_⟩
  · unfold rdN; rw [h1, if_neg (by omega)]
  · unfold rdT; rw [h1, if_neg (by omega)]
theorem rd_of0 {b : List UInt8} {k n t : Nat} (hk : k ≤ b.length) (h : rdv 10 0 (b.drop k) = (0, n, t)) : rdE b (k : Int) = 0 ∧ rdN b (k : Int) = unzig n ∧ rdT b (k : Int) = (k : Int) + (t : Nat) := by
  have h1 : rdE b (k : Int) = 0 := by rw [rdE_in hk, h]; rfl
  refine ⟨h1, ?_, ?_⟩
  · unfold rdN; rw [h1, if_pos rfl, Int.toNat_natCast, h]
  · unfold rdT; rw [h1, if_pos rfl, Int.toNat_natCast, h]
theorem Reads.bad {b : List UInt8} {k j v ch : Nat} (h : Reads b k j v) (hj : j < 10) (hin : k + j < b.length) (hc : b[k + j].toNat = ch) (h8 : ch < 128) (hb : (ch = 0 ∧ 0 < j) ∨ (j = 9 ∧ 1 < ch)) :
    rdE b (k : Int) = 3 ∧ rdN b (k : Int) = 0 ∧ rdT b (k : Int) = 0 := by
  have he := h.at hj hin
  rw [rdv, if_neg (by omega), if_pos (by rw [hc]; exact hb), comb_err _ _ _ (by omega)] at he
  exact rd_of (e := 3) (by omega) he.symm (by omega)
theorem Reads.ok {b : List UInt8} {k j v ch : Nat} (h : Reads b k j v) (hj : j < 10) (hin : k + j < b.length) (hc : b[k + j].toNat = ch) (h8 : ch < 128) (hb : ¬ ((ch = 0 ∧ 0 < j) ∨ (j = 9 ∧ 1 < ch))) :
    rdE b (k : Int) = 0 ∧ rdN b (k : Int) = unzig (nextX v ch j) ∧ rdT b (k : Int) = (k : Int) + (j : Int) + 1 := by
  have he := h.at hj hin
  rw [rdv, if_neg (by omega), if_neg (by rw [hc]; exact hb)] at he
  have hv : v < 128 ^ j := by rcases h.2.2.1 with h1 | h1 <;> omega
  rw [comb, if_pos rfl, hc] at he
  have e := nextX_eq v ch j hv (by omega) (by omega) (by omega)
  rw [e]
  have := rd_of0 (n := v + 128 ^ j * ch) (t := j + 1) (by omega) he.symm
  refine ⟨this.1, this.2.1, ?_⟩
  rw [this.2.2, Int.natCast_add]; omega
theorem Reads.short {b : List UInt8} {k j v : Nat} (h : Reads b k j v) (hj : j < 10) (hin : ¬ k + j < b.length) :
    rdE b (k : Int) = 4 ∧ rdN b (k : Int) = 0 ∧ rdT b (k : Int) = 0 := by
  have he := h.2.2.2
  have hk := h.2.1
  rw [List.drop_eq_nil_of_le (by omega), show 10 - j = 9 - j + 1 by omega, rdv, comb_err _ _ _ (by omega)] at he
  exact rd_of (e := 4) (by omega) he.symm (by omega)
theorem Reads.long {b : List UInt8} {k v : Nat} (h : Reads b k 10 v) : rdE b (k : Int) = 3 ∧ rdN b (k : Int) = 0 ∧ rdT b (k : Int) = 0 :=
  rd_of (e := 3) (by have := h.2.1; omega) (h.2.2.2.symm.trans (comb_bad _ _ _ _)) (by omega)
theorem rd_range {b : List UInt8} {a : Int} (h : a < 0 ∨ (b.length : Int) < a) : rdE b a = 2 ∧ rdN b a = 0 ∧ rdT b a = 0 := by
  have h1 : rdE b a = 2 := by unfold rdE; rw [if_pos h]
  refine ⟨h1, ?_, ?_⟩
  · unfold rdN; rw [h1, if_neg (by omega)]
  · unfold rdT; rw [h1, if_neg (by omega)]

theorem w8_low7 (ch : Nat) (h : ch < 256) : bits BinOp.and IntKind.u8 (ch : Int) 127 = ((ch % 128 : Nat) : Int) := by
  rw [show (127 : Int) = ((127 : Nat) : Int) from rfl, u8_and_nat _ _ h (by omega), nat_mask7]
theorem w64_small (d : Nat) (h : d < 256) : IntKind.u64.wrap (d : Int) = (d : Int) := by
  rw [IntKind.wrap_u64]; omega
theorem w64_next (v d j : Nat) (hv : v < 18446744073709551616) : bits BinOp.or IntKind.u64 (v : Int) (IntKind.u64.wrap ((d : Int) * 2 ^ (7 * j))) = ((nextX v d j : Nat) : Int) := by
  have e : ((d : Int) * 2 ^ (7 * j)) = ((d * 2 ^ (7 * j) : Nat) : Int) := by simp
  rw [IntKind.wrap_u64, e, show (((d * 2 ^ (7 * j) : Nat) : Int) % 18446744073709551616) = (((d * 2 ^ (7 * j)) % 18446744073709551616 : Nat) : Int) by omega]
  exact u64_or_nat _ _ hv (Nat.mod_lt _ (by omega))

/-- x ^ -b for a bit b -/
theorem i64_xor0 (a : Nat) (ha : a < 9223372036854775808) : bits .xor .i64 (a : Int) 0 = (a : Int) := by
  show IntKind.i64.wrap ((BitVec.ofInt 64 (a : Int) ^^^ BitVec.ofInt 64 0).toNat : Int) = _
  have h1 : BitVec.ofInt 64 0 = 0#64 := by decide
  rw [h1, BitVec.xor_zero, ofInt_u64 a (by omega)]
  simp [IntKind.wrap, IntKind.bits, IntKind.signed]
  omega
theorem i64_xor1 (a : Nat) (ha : a < 9223372036854775808) : bits .xor .i64 (a : Int) (-1) = -1 - (a : Int) := by
  rw [← i64_not a ha]
  show IntKind.i64.wrap ((BitVec.ofInt 64 (a : Int) ^^^ BitVec.ofInt 64 (-1)).toNat : Int) = IntKind.i64.wrap ((BitVec.ofInt 64 (-1) ^^^ BitVec.ofInt 64 (a : Int)).toNat : Int)
  rw [BitVec.xor_comm]
theorem w64_low1 (x : Nat) (h : x < 18446744073709551616) : bits BinOp.and IntKind.u64 (x : Int) 1 = ((x % 2 : Nat) : Int) := by
  rw [show (1 : Int) = ((1 : Nat) : Int) from rfl, u64_and_nat _ _ h (by omega), nat_mask1]
theorem w64_unzig (x : Nat) (h : x < 18446744073709551616) : bits BinOp.xor IntKind.i64 ((x : Int) / 2) (wrap64 (-wrap64 (bits BinOp.and IntKind.u64 (x : Int) 1))) = unzig x := by
  rw [w64_low1 x h, show ((x : Int) / 2) = ((x / 2 : Nat) : Int) by omega]
  unfold unzig
  rcases Nat.mod_two_eq_zero_or_one x with h2 | h2
  · rw [h2, if_pos rfl, IntWalk.wrap64_in ((0 : Nat) : Int) ⟨by omega, by omega⟩, IntWalk.wrap64_in (-((0 : Nat) : Int)) ⟨by omega, by omega⟩]
    exact i64_xor0 _ (by omega)
  · rw [h2, if_neg (by omega), IntWalk.wrap64_in ((1 : Nat) : Int) ⟨by omega, by omega⟩, IntWalk.wrap64_in (-((1 : Nat) : Int)) ⟨by omega, by omega⟩]
    have := i64_xor1 (x / 2) (by omega)
    rw [show (-((x / 2 : Nat) : Int) - 1) = -1 - ((x / 2 : Nat) : Int) by omega, ← this]
    rfl
theorem unzig0 : bits BinOp.xor IntKind.i64 (wrap64 (bits BinOp.or IntKind.u64 0 (IntKind.u64.wrap (IntKind.u64.wrap (bits BinOp.and IntKind.u8 0 127))) / 2)) (wrap64 (-wrap64 (bits BinOp.and IntKind.u64 (bits BinOp.or IntKind.u64 0 (IntKind.u64.wrap (IntKind.u64.wrap (bits BinOp.and IntKind.u8 0 127)))) 1))) = unzig (nextX 0 0 0) := by
  have h0 : bits BinOp.and IntKind.u8 0 127 = ((0 : Nat) : Int) := u8_and_nat 0 127 (by omega) (by omega)
  have h : bits BinOp.or IntKind.u64 0 ((0 : Nat) : Int) = ((0 : Nat) : Int) := u64_or_nat 0 0 (by omega) (by omega)
  rw [h0, w64_small 0 (by omega), w64_small 0 (by omega), h, IntWalk.wrap64_in (((0 : Nat) : Int) / 2) ⟨by omega, by omega⟩, w64_unzig 0 (by omega), show nextX 0 0 0 = 0 by decide]
end Go.Proofs.YtfjiikcbcoohdaaDoor
