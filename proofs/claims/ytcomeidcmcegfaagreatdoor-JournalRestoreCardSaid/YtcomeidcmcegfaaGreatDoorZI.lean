/-
  The plain functions of layer 5 (sums): the checksum, the hash, hexadecimal digits, with the bounds that the walks use. Conditions: none; no program in sight.
  The checksum tells bursts: bytes of one length that differ only among 32 consecutive bits have the same checksum only if they are equal. Conditions: none; no program in sight.
  The plain functions of layer 6 (frame) and their laws: a frame is opened to what was sealed; what is opened was sealed; a frame that is cut is too short; the checksum of a frame. Conditions: none; no program in sight.
  The plain laws of layer 5: Hex and Unhex are inverse; different hashes stay different; bytes that differ within four that follow one another have different checksums. Conditions: none; no program in sight.
  Plain laws of layer 6: inverted bits are noticed; frames one after the other, cut anywhere. Conditions: none; no program in sight.
-/
import Derived.Laws.BitsAllLaws
import Derived.WalkKit
import Derived.Test.YtcomeidcmcegfaaGreatDoorZA
namespace Go.Proofs.YtcomeidcmcegfaaGreatDoor
open Go.RowKit
set_option linter.unusedVariables false
/-! ### Crc -/
def cstep (x : Nat) : Nat := if x % 2 = 1 then x / 2 ^^^ 3988292384 else x / 2
def cstepN : Nat → Nat → Nat
 | 0, x => x
 | k+1, x => cstep (cstepN k x)
def cbyte (x : Nat) (c : UInt8) : Nat := cstepN 8 (x ^^^ c.toNat)
def creg (l : List UInt8) : Nat := l.foldl cbyte 4294967295
def crc (l : List UInt8) : Nat := creg l ^^^ 4294967295
theorem cstep_lt {x : Nat} (h : x < 4294967296) : cstep x < 4294967296 := by
 unfold cstep; split
 ·exact Nat.xor_lt_two_pow (n := 32) (by omega) (by omega)
 ·omega
theorem cstepN_lt (k : Nat) {x : Nat} (h : x < 4294967296) : cstepN k x < 4294967296 := by
 induction k with
 | zero => exact h
 | succ k ih => exact cstep_lt ih
theorem cbyte_lt {x : Nat} (c : UInt8) (h : x < 4294967296) : cbyte x c < 4294967296 :=
 cstepN_lt 8 (Nat.xor_lt_two_pow (n := 32) (by omega) (by have := c.toNat_lt; omega))
theorem cfold_lt (l : List UInt8) {x : Nat} (h : x < 4294967296) : l.foldl cbyte x < 4294967296 := by
 induction l generalizing x with
 | nil => exact h
 | cons c l ih => exact ih (cbyte_lt c h)
theorem creg_lt (l : List UInt8) : creg l < 4294967296 := cfold_lt l (by omega)
theorem crc_lt (l : List UInt8) : crc l < 4294967296 := Nat.xor_lt_two_pow (n := 32) (creg_lt l) (by omega)
theorem creg_take (l : List UInt8) (k : Nat) (h : k < l.length) : creg (l.take (k + 1)) = cstepN 8 (creg (l.take k) ^^^ l[k].toNat) := by
 unfold creg; rw [List.take_succ_eq_append_getElem h, List.foldl_append]; rfl
theorem w32_byte (x : Nat) (c : UInt8) (h : x < 4294967296) : bits BinOp.xor IntKind.u32 (x : Int) ((c.toNat : Int) % 4294967296) = ((x ^^^ c.toNat : Nat) : Int) := by
 have := c.toNat_lt
 rw [Int.emod_eq_of_lt (by omega) (by omega), u32_xor_nat _ _ h (by omega)]
theorem w32_and1 (x : Nat) (h : x < 4294967296) : bits BinOp.and IntKind.u32 (x : Int) 1 = ((x % 2 : Nat) : Int) := by
 rw [show (1 : Int) = ((1 : Nat) : Int) from rfl, u32_and_nat _ _ h (by omega), nat_mask1]
theorem w32_odd (x : Nat) (h : x < 4294967296) (ht : ((x : Int) % 2 == 1) = true) : bits BinOp.xor IntKind.u32 ((x : Int) / 2) 3988292384 = ((cstep x : Nat) : Int) := by
 have ht' : x % 2 = 1 := by have := eq_of_beq ht; omega
 rw [show ((x : Int) / 2) = ((x / 2 : Nat) : Int) by omega, show (3988292384 : Int) = ((3988292384 : Nat) : Int) from rfl, u32_xor_nat _ _ (by omega) (by omega)]
 simp [cstep, ht']
theorem w32_even (x : Nat) (ht : ((x : Int) % 2 == 1) = false) : ((x : Int) / 2) = ((cstep x : Nat) : Int) := by
 have ht' : ¬ x % 2 = 1 := by have := ne_of_beq_false ht; omega
 simp [cstep, ht']
theorem w32_not (x : Nat) (h : x < 4294967296) : wrap64 (bits BinOp.xor IntKind.u32 IntKind.u32.max (x : Int)) = ((x ^^^ 4294967295 : Nat) : Int) := by
 have hx := Nat.xor_lt_two_pow (n := 32) h (show 4294967295 < 2 ^ 32 by omega)
 rw [show IntKind.u32.max = ((4294967295 : Nat) : Int) from rfl, u32_xor_nat _ _ (by omega) (by omega), Nat.xor_comm]
 exact IntWalk.wrap64_in _ ⟨by omega, by omega⟩
theorem w64_odd (x : Nat) (h : x < 4294967296) (ht : ((x : Int) % 2 == 1) = true) : bits BinOp.xor IntKind.u64 ((x : Int) / 2) 3988292384 = ((cstep x : Nat) : Int) := by
 have ht' : x % 2 = 1 := by have := eq_of_beq ht; omega
 rw [show ((x : Int) / 2) = ((x / 2 : Nat) : Int) by omega, show (3988292384 : Int) = ((3988292384 : Nat) : Int) from rfl, u64_xor_nat _ _ (by omega) (by omega)]
 simp [cstep, ht']
theorem w64_byte (x : Nat) (c : UInt8) (h : x < 4611686018427387904) : bits BinOp.xor IntKind.u64 (x : Int) (IntKind.u64.wrap (c.toNat : Int)) = ((x ^^^ c.toNat : Nat) : Int) := by
 have := c.toNat_lt
 rw [IntKind.wrap_u64, Int.emod_eq_of_lt (by omega) (by omega), u64_xor_nat _ _ (by omega) (by omega)]
theorem w64_not (x : Nat) (h : x < 4294967296) : wrap64 (bits BinOp.xor IntKind.u64 (x : Int) 4294967295) = ((x ^^^ 4294967295 : Nat) : Int) := by
 have hx := Nat.xor_lt_two_pow (n := 32) h (show 4294967295 < 2 ^ 32 by omega)
 rw [show (4294967295 : Int) = ((4294967295 : Nat) : Int) from rfl, u64_xor_nat _ _ (by omega) (by omega)]
 exact IntWalk.wrap64_in _ ⟨by omega, by omega⟩
/-! ### Hash -/
def hstep (x : Nat) (c : UInt8) : Nat := ((x ^^^ c.toNat) * 1099511628211) % 4611686018427387904
def low62 (h : Int) : Nat := (h % 4611686018427387904).toNat
def more (h : Int) (l : List UInt8) : Nat := l.foldl hstep (low62 h)
def hash (l : List UInt8) : Nat := more 860922984064492325 l
/-! ### Hex -/
/-! ### Unhex -/
end Go.Proofs.YtcomeidcmcegfaaGreatDoor
namespace Go.Proofs.YtcomeidcmcegfaaGreatDoor
open Go.RowKit
set_option linter.unusedVariables false
/-! ### bit by bit -/
end Go.Proofs.YtcomeidcmcegfaaGreatDoor
namespace Go.Proofs.YtcomeidcmcegfaaGreatDoor
open Go.RowKit
set_option linter.unusedVariables false
def tail4 (n : Nat) : List UInt8 := [UInt8.ofNat (n % 256), UInt8.ofNat (n / 256 % 256), UInt8.ofNat (n / 65536 % 256), UInt8.ofNat (n / 16777216 % 256)]
theorem tail4_length (n : Nat) : (tail4 n).length = 4 := rfl
def fhead (kind : Int) (n : Nat) : List UInt8 := 76 :: UInt8.ofNat kind.toNat :: enc n
def fmsg (kind : Int) (b : List UInt8) : List UInt8 := fhead kind b.length ++ b
def fseal (kind : Int) (b : List UInt8) : List UInt8 := fmsg kind b ++ tail4 (crc (fmsg kind b))
theorem fhead_length (kind : Int) (n : Nat) : (fhead kind n).length = 2 + (enc n).length := by simp [fhead]; omega
theorem fmsg_length (kind : Int) (b : List UInt8) : (fmsg kind b).length = 2 + (enc b.length).length + b.length := by unfold fmsg; rw [List.length_append, fhead_length]
theorem fseal_length (kind : Int) (b : List UInt8) : (fseal kind b).length = 2 + (enc b.length).length + b.length + 4 := by unfold fseal; rw [List.length_append, fmsg_length, tail4_length]
def slE (kind : Int) (n : Nat) : Int := if kind < 1 ∨ 255 < kind then 1 else if 1048576 < n then 5 else 0
def slB (kind : Int) (b : List UInt8) : List UInt8 := if slE kind b.length = 0 then fseal kind b else []
def frN (b : List UInt8) (k : Nat) : Int × Int × List UInt8 × Int :=
 if k = b.length then (4, 0, [], 0) else
 if (b.getD k 0).toNat ≠ 76 then (3, 0, [], 0) else
 if k + 1 = b.length then (4, 0, [], 0) else
 if (b.getD (k + 1) 0).toNat = 0 then (3, 0, [], 0) else
 if rdE b ((k + 2 : Nat) : Int) ≠ 0 then (rdE b ((k + 2 : Nat) : Int), 0, [], 0) else
 if rdN b ((k + 2 : Nat) : Int) < 0 ∨ 1048576 < rdN b ((k + 2 : Nat) : Int) then (3, 0, [], 0) else
 if (b.length : Int) - rdT b ((k + 2 : Nat) : Int) < rdN b ((k + 2 : Nat) : Int) + 4 then (4, 0, [], 0) else
 if (b.drop ((rdT b ((k + 2 : Nat) : Int)).toNat + (rdN b ((k + 2 : Nat) : Int)).toNat)).take 4 ≠ tail4 (crc ((b.drop k).take ((rdT b ((k + 2 : Nat) : Int)).toNat + (rdN b ((k + 2 : Nat) : Int)).toNat - k))) then (6, 0, [], 0) else
 (0, ((b.getD (k + 1) 0).toNat : Int), (b.drop (rdT b ((k + 2 : Nat) : Int)).toNat).take (rdN b ((k + 2 : Nat) : Int)).toNat, rdT b ((k + 2 : Nat) : Int) + rdN b ((k + 2 : Nat) : Int) + 4)
def frR (b : List UInt8) (a : Int) : Int × Int × List UInt8 × Int := if a < 0 ∨ (b.length : Int) < a then (2, 0, [], 0) else frN b a.toNat
def frE (b : List UInt8) (a : Int) : Int := (frR b a).1
def frK (b : List UInt8) (a : Int) : Int := (frR b a).2.1
def frC (b : List UInt8) (a : Int) : List UInt8 := (frR b a).2.2.1
def frT (b : List UInt8) (a : Int) : Int := (frR b a).2.2.2
section
variable {b : List UInt8} {k : Nat}
theorem op_range {a : Int} (h : a < 0 ∨ (b.length : Int) < a) : frR b a = (2, 0, [], 0) := by unfold frR; rw [if_pos h]
theorem op_in (h : k ≤ b.length) : frR b (k : Int) = frN b k := by unfold frR; rw [if_neg (by omega), Int.toNat_natCast]
theorem op_end (h : k = b.length) : frR b (k : Int) = (4, 0, [], 0) := by rw [op_in (by omega), frN, if_pos h]
theorem op_mark (h : k < b.length) (h1 : b[k].toNat ≠ 76) : frR b (k : Int) = (3, 0, [], 0) := by
 rw [op_in (by omega), frN, if_neg (by omega), if_pos (by simpa [List.getD, h] using h1)]
theorem op_one (h : k < b.length) (h1 : b[k].toNat = 76) (h2 : k + 1 = b.length) : frR b (k : Int) = (4, 0, [], 0) := by
 rw [op_in (by omega), frN, if_neg (by omega), if_neg (by simpa [List.getD, h] using h1), if_pos h2]
theorem op_zero (h : k + 1 < b.length) (h1 : b[k].toNat = 76) (h2 : b[k + 1].toNat = 0) : frR b (k : Int) = (3, 0, [], 0) := by
 rw [op_in (by omega), frN, if_neg (by omega), if_neg (by simpa [List.getD, show k < b.length by omega] using h1), if_neg (by omega), if_pos (by simpa [List.getD, h] using h2)]
def Marked (b : List UInt8) (k : Nat) : Prop := k + 1 < b.length ∧ (b.getD k 0).toNat = 76 ∧ (b.getD (k + 1) 0).toNat ≠ 0
theorem Marked.mk' (h : k + 1 < b.length) (h1 : b[k].toNat = 76) (h2 : b[k + 1].toNat ≠ 0) : Marked b k :=
 ⟨h, by simpa [List.getD, show k < b.length by omega] using h1, by simpa [List.getD, h] using h2⟩
theorem Marked.go (h : Marked b k) : frR b (k : Int) =
 if rdE b ((k + 2 : Nat) : Int) ≠ 0 then (rdE b ((k + 2 : Nat) : Int), 0, [], 0) else
 if rdN b ((k + 2 : Nat) : Int) < 0 ∨ 1048576 < rdN b ((k + 2 : Nat) : Int) then (3, 0, [], 0) else
 if (b.length : Int) - rdT b ((k + 2 : Nat) : Int) < rdN b ((k + 2 : Nat) : Int) + 4 then (4, 0, [], 0) else
 if (b.drop ((rdT b ((k + 2 : Nat) : Int)).toNat + (rdN b ((k + 2 : Nat) : Int)).toNat)).take 4 ≠ tail4 (crc ((b.drop k).take ((rdT b ((k + 2 : Nat) : Int)).toNat + (rdN b ((k + 2 : Nat) : Int)).toNat - k))) then (6, 0, [], 0) else
 (0, ((b.getD (k + 1) 0).toNat : Int), (b.drop (rdT b ((k + 2 : Nat) : Int)).toNat).take (rdN b ((k + 2 : Nat) : Int)).toNat, rdT b ((k + 2 : Nat) : Int) + rdN b ((k + 2 : Nat) : Int) + 4) := by
 obtain ⟨h0, h1, h2⟩ := h
 rw [op_in (by omega), frN, if_neg (by omega), if_neg (by omega), if_neg (by omega), if_neg (by omega)]
theorem op_int (h : Marked b k) (h3 : rdE b ((k + 2 : Nat) : Int) ≠ 0) : frR b (k : Int) = (rdE b ((k + 2 : Nat) : Int), 0, [], 0) := by rw [h.go, if_pos h3]
theorem op_size (h : Marked b k) (h3 : rdE b ((k + 2 : Nat) : Int) = 0) (h4 : rdN b ((k + 2 : Nat) : Int) < 0 ∨ 1048576 < rdN b ((k + 2 : Nat) : Int)) : frR b (k : Int) = (3, 0, [], 0) := by
 rw [h.go, if_neg (by omega), if_pos h4]
theorem op_short (h : Marked b k) (h3 : rdE b ((k + 2 : Nat) : Int) = 0) (h4 : ¬ (rdN b ((k + 2 : Nat) : Int) < 0 ∨ 1048576 < rdN b ((k + 2 : Nat) : Int)))
 (h5 : (b.length : Int) - rdT b ((k + 2 : Nat) : Int) < rdN b ((k + 2 : Nat) : Int) + 4) : frR b (k : Int) = (4, 0, [], 0) := by
 rw [h.go, if_neg (by omega), if_neg h4, if_pos h5]
structure Framed (b : List UInt8) (k T N : Nat) : Prop where
 m : Marked b k
 e : rdE b ((k + 2 : Nat) : Int) = 0
 n : rdN b ((k + 2 : Nat) : Int) = (N : Int)
 t : rdT b ((k + 2 : Nat) : Int) = (T : Int)
 le : N ≤ 1048576
 lt : k + 2 < T
 fit : T + N + 4 ≤ b.length
theorem Framed.of (h : Marked b k) (h3 : rdE b ((k + 2 : Nat) : Int) = 0) (h4 : ¬ (rdN b ((k + 2 : Nat) : Int) < 0 ∨ 1048576 < rdN b ((k + 2 : Nat) : Int)))
 (h5 : ¬ (b.length : Int) - rdT b ((k + 2 : Nat) : Int) < rdN b ((k + 2 : Nat) : Int) + 4) : ∃ T N, Framed b k T N := by
 obtain ⟨b1, b2, b3, b4⟩ := read_bound h3
 exact ⟨(rdT b ((k + 2 : Nat) : Int)).toNat, (rdN b ((k + 2 : Nat) : Int)).toNat, h, h3, by omega, by omega, by omega, by omega, by omega⟩
theorem Framed.go {T N : Nat} (h : Framed b k T N) : frR b (k : Int) =
 if (b.drop (T + N)).take 4 ≠ tail4 (crc ((b.drop k).take (T + N - k))) then (6, 0, [], 0) else (0, ((b.getD (k + 1) 0).toNat : Int), (b.drop T).take N, (T : Int) + N + 4) := by
 have h5 := h.fit
 have h6 := h.le
 rw [h.m.go, if_neg (by rw [h.e]; omega), if_neg (by rw [h.n]; omega), if_neg (by rw [h.n, h.t]; omega), h.n, h.t, Int.toNat_natCast, Int.toNat_natCast]
theorem op_sum {T N : Nat} (h : Framed b k T N) (h6 : (b.drop (T + N)).take 4 ≠ tail4 (crc ((b.drop k).take (T + N - k)))) : frR b (k : Int) = (6, 0, [], 0) := by rw [h.go, if_pos h6]
theorem op_ok {T N : Nat} (h : Framed b k T N) (h6 : (b.drop (T + N)).take 4 = tail4 (crc ((b.drop k).take (T + N - k)))) :
 frR b (k : Int) = (0, ((b.getD (k + 1) 0).toNat : Int), (b.drop T).take N, (T : Int) + N + 4) := by rw [h.go, if_neg (by simpa using h6)]
end
theorem getD_append_right (l m : List UInt8) (j : Nat) : (l ++ m).getD (l.length + j) 0 = m.getD j 0 := by
 simp [List.getD, List.getElem?_append_right (show l.length ≤ l.length + j by omega)]
theorem opE_cases (b : List UInt8) (a : Int) : frE b a = 0 ∨ frR b a = (frE b a, 0, [], 0) := by
 unfold frE
 by_cases h0 : a < 0 ∨ (b.length : Int) < a
 ·rw [op_range h0]; right; rfl
 ·obtain ⟨k, rfl⟩ : ∃ k : Nat, a = k := ⟨a.toNat, by omega⟩
  rw [op_in (by omega), frN]
  repeat (split; · right; rfl)
  left; rfl
theorem op_inv {b : List UInt8} {a : Int} (h : frE b a = 0) : ∃ k T N : Nat, a = (k : Int) ∧ Framed b k T N ∧ (b.drop (T + N)).take 4 = tail4 (crc ((b.drop k).take (T + N - k))) := by
 unfold frE at h
 by_cases h0 : a < 0 ∨ (b.length : Int) < a
 ·rw [op_range h0] at h; cases h
 ·obtain ⟨k, rfl⟩ : ∃ k : Nat, a = k := ⟨a.toNat, by omega⟩
  have hk : k ≤ b.length := by omega
  by_cases h1 : k = b.length
  ·rw [op_end h1] at h; cases h
  ·have hk' : k < b.length := by omega
   by_cases h2 : b[k].toNat = 76
   ·by_cases h3 : k + 1 = b.length
    ·rw [op_one hk' h2 h3] at h; cases h
    ·have hk2 : k + 1 < b.length := by omega
     by_cases h4 : b[k + 1].toNat = 0
     ·rw [op_zero hk2 h2 h4] at h; cases h
     ·have hm := Marked.mk' hk2 h2 h4
      by_cases h5 : rdE b ((k + 2 : Nat) : Int) = 0
      ·by_cases h6 : rdN b ((k + 2 : Nat) : Int) < 0 ∨ 1048576 < rdN b ((k + 2 : Nat) : Int)
       ·rw [op_size hm h5 h6] at h; cases h
       ·by_cases h7 : (b.length : Int) - rdT b ((k + 2 : Nat) : Int) < rdN b ((k + 2 : Nat) : Int) + 4
        ·rw [op_short hm h5 h6 h7] at h; cases h
        ·obtain ⟨T, N, hf⟩ := Framed.of hm h5 h6 h7
         by_cases h8 : (b.drop (T + N)).take 4 = tail4 (crc ((b.drop k).take (T + N - k)))
         ·exact ⟨k, T, N, rfl, hf, h8⟩
         ·rw [op_sum hf h8] at h; cases h
      ·rw [op_int hm h5] at h; exact absurd h h5
   ·rw [op_mark hk' h2] at h; cases h
theorem op_next {b : List UInt8} {a : Int} (h : frE b a = 0) : 0 ≤ a ∧ a + 7 ≤ frT b a ∧ frT b a ≤ b.length := by
 obtain ⟨k, T, N, rfl, hf, h8⟩ := op_inv h
 unfold frT
 rw [op_ok hf h8]
 have := hf.lt
 have := hf.fit
 refine ⟨by omega, ?_, ?_⟩
 ·show (k : Int) + 7 ≤ (T : Int) + N + 4; omega
 ·show (T : Int) + N + 4 ≤ b.length; omega
theorem kind_byte {kind : Int} (h1 : 1 ≤ kind) (h2 : kind ≤ 255) : ((UInt8.ofNat kind.toNat).toNat : Int) = kind := by
 rw [UInt8.toNat_ofNat']; omega
theorem framed_seal (l s : List UInt8) (kind : Int) (c : List UInt8) (h1 : 1 ≤ kind) (h2 : kind ≤ 255) (h3 : c.length ≤ 1048576) :
 Framed (l ++ (fseal kind c ++ s)) l.length (l.length + 2 + (enc c.length).length) c.length ∧
 ((l ++ (fseal kind c ++ s)).drop (l.length + 2 + (enc c.length).length + c.length)).take 4 = tail4 (crc (((l ++ (fseal kind c ++ s)).drop l.length).take (l.length + 2 + (enc c.length).length + c.length - l.length))) ∧
 ((l ++ (fseal kind c ++ s)).drop (l.length + 2 + (enc c.length).length)).take c.length = c ∧ (((l ++ (fseal kind c ++ s)).getD (l.length + 1) 0).toNat : Int) = kind := by
 have hk := kind_byte h1 h2
 have hl := enc_length (c.length : Int)
 have e1 : l ++ (fseal kind c ++ s) = (l ++ [76, UInt8.ofNat kind.toNat]) ++ (enc c.length ++ (c ++ (tail4 (crc (fmsg kind c)) ++ s))) := by
  simp [fseal, fmsg, fhead]
 have hll : (l ++ [76, UInt8.ofNat kind.toNat]).length = l.length + 2 := by simp
 obtain ⟨r1, r2, r3⟩ := enc_read (l ++ [76, UInt8.ofNat kind.toNat]) (c.length : Int) (c ++ (tail4 (crc (fmsg kind c)) ++ s)) (by omega) (by omega)
 rw [← e1, hll] at r1 r2 r3
 have hlen : (l ++ (fseal kind c ++ s)).length = l.length + (2 + (enc c.length).length + c.length + 4) + s.length := by
  rw [List.length_append, List.length_append, fseal_length]; omega
 have hg0 : (l ++ (fseal kind c ++ s)).getD l.length 0 = 76 := by
  have := getD_append_right l (fseal kind c ++ s) 0
  rw [Nat.add_zero] at this
  rw [this]; rfl
 have hg1 : (l ++ (fseal kind c ++ s)).getD (l.length + 1) 0 = UInt8.ofNat kind.toNat := by
  rw [getD_append_right l (fseal kind c ++ s) 1]; rfl
 have em : (l ++ (fseal kind c ++ s)) = l ++ (fmsg kind c ++ (tail4 (crc (fmsg kind c)) ++ s)) := by simp [fseal]
 have hml := fmsg_length kind c
 refine ⟨⟨⟨by omega, by rw [hg0]; rfl, by rw [hg1]; omega⟩, r1, r2, ?_, h3, by omega, by omega⟩, ?_, ?_, ?_⟩
 ·rw [r3]
 ·have d1 : (l ++ (fseal kind c ++ s)).drop (l.length + 2 + (enc c.length).length + c.length) = tail4 (crc (fmsg kind c)) ++ s := by
   rw [em, ← List.append_assoc, List.drop_left' (by rw [List.length_append, hml]; omega)]
  have d2 : ((l ++ (fseal kind c ++ s)).drop l.length).take (l.length + 2 + (enc c.length).length + c.length - l.length) = fmsg kind c := by
   rw [em, List.drop_left' rfl, List.take_left' (by rw [hml]; omega)]
  rw [d1, d2]
  exact List.take_left' rfl
 ·rw [e1, ← List.append_assoc, List.drop_left' (by rw [List.length_append, hll]), List.take_left' rfl]
 ·rw [hg1, hk]
theorem op_seal (l s : List UInt8) (kind : Int) (c : List UInt8) (h1 : 1 ≤ kind) (h2 : kind ≤ 255) (h3 : c.length ≤ 1048576) :
 frR (l ++ (fseal kind c ++ s)) (l.length : Int) = (0, kind, c, (((l ++ fseal kind c).length : Nat) : Int)) := by
 obtain ⟨hf, h8, hc, hk⟩ := framed_seal l s kind c h1 h2 h3
 rw [op_ok hf h8, hc, hk]
 have := fseal_length kind c
 simp only [Prod.mk.injEq, true_and, List.length_append]
 omega
theorem seal_op {b : List UInt8} {a : Int} (h : frE b a = 0) : 1 ≤ frK b a ∧ frK b a ≤ 255 ∧ (frC b a).length ≤ 1048576 ∧ (b.drop a.toNat).take ((frT b a).toNat - a.toNat) = fseal (frK b a) (frC b a) := by
 obtain ⟨k, T, N, rfl, hf, h8⟩ := op_inv h
 have h5 := hf.fit
 have h6 := hf.lt
 have h7 := hf.le
 obtain ⟨m0, m1, m2⟩ := hf.m
 have hr := read_enc hf.e
 rw [hf.t, hf.n, Int.toNat_natCast, Int.toNat_natCast] at hr
 unfold frK frC frT
 rw [op_ok hf h8]
 simp only [Int.toNat_natCast]
 have hb := (b.getD (k + 1) 0).toNat_lt
 have hcl : ((b.drop T).take N).length = N := by simp; omega
 refine ⟨by omega, by omega, by omega, ?_⟩
 -- the bytes from k on
 have e2 : b.drop k = 76 :: b.getD (k + 1) 0 :: b.drop (k + 2) := by
  rw [List.drop_eq_getElem_cons (show k < b.length by omega), List.drop_eq_getElem_cons (show k + 1 < b.length by omega)]
  have g0 : b[k] = 76 := by
   apply UInt8.toNat_inj.1
   have := m1; simp [List.getD, show k < b.length by omega] at this; rw [this]; rfl
  have g1 : b.getD (k + 1) 0 = b[k + 1] := by simp [List.getD, m0]
  rw [g0, g1]
 have e3 : (b.drop (k + 2)).take (T - (k + 2)) = enc N := by
  have := congrArg (List.drop (k + 2)) hr
  rw [List.drop_take] at this
  rw [this, List.drop_left' (by simp; omega)]
 have hel : (enc (N : Int)).length = T - (k + 2) := by rw [← e3]; simp; omega
 have e4 : (b.drop k).take (T + N - k) = fmsg ((b.getD (k + 1) 0).toNat : Int) ((b.drop T).take N) := by
  unfold fmsg fhead
  rw [hcl, Int.toNat_natCast, e2, show T + N - k = (T + N - (k + 2)) + 2 by omega]
  simp only [List.take_succ_cons, List.cons_append]
  rw [show UInt8.ofNat (b.getD (k + 1) 0).toNat = b.getD (k + 1) 0 by simp]
  congr 2
  rw [show T + N - (k + 2) = (T - (k + 2)) + N by omega, List.take_add, e3, List.drop_drop, show k + 2 + (T - (k + 2)) = T by omega]
 rw [show ((T : Int) + N + 4).toNat - k = (T + N - k) + 4 by omega, List.take_add, e4, List.drop_drop, show k + (T + N - k) = T + N by omega, h8, e4]
 rfl
theorem op_cut (l : List UInt8) (kind : Int) (c : List UInt8) (j : Nat) (h1 : 1 ≤ kind) (h2 : kind ≤ 255) (h3 : c.length ≤ 1048576) (hj : j < (fseal kind c).length) :
 frR (l ++ (fseal kind c).take j) (l.length : Int) = (4, 0, [], 0) := by
 have hk := kind_byte h1 h2
 have hl := enc_length (c.length : Int)
 have hs := fseal_length kind c
 have hlen : (l ++ (fseal kind c).take j).length = l.length + j := by simp; omega
 rcases Nat.eq_zero_or_pos j with h0 | h0
 ·exact op_end (by omega)
 ·have hg0 : ∀ (h : l.length < (l ++ (fseal kind c).take j).length), (l ++ (fseal kind c).take j)[l.length] = 76 := fun h => by
   rw [List.getElem_append_right (by omega)]
   simp [fseal, fmsg, fhead]
  rcases Nat.lt_or_ge j 2 with h4 | h4
  ·exact op_one (by omega) (by rw [hg0 (by omega)]; rfl) (by omega)
  ·have hg1 : ∀ (h : l.length + 1 < (l ++ (fseal kind c).take j).length), (l ++ (fseal kind c).take j)[l.length + 1] = UInt8.ofNat kind.toNat := fun h => by
    rw [List.getElem_append_right (by omega)]
    simp [fseal, fmsg, fhead]
   have hm : Marked (l ++ (fseal kind c).take j) l.length := Marked.mk' (by omega) (by rw [hg0 (by omega)]; rfl) (by rw [hg1 (by omega)]; omega)
   have e0 : fseal kind c = [76, UInt8.ofNat kind.toNat] ++ (enc c.length ++ (c ++ tail4 (crc (fmsg kind c)))) := by simp [fseal, fmsg, fhead]
   have e1 : l ++ (fseal kind c).take j = (l ++ [76, UInt8.ofNat kind.toNat]) ++ (enc c.length ++ (c ++ tail4 (crc (fmsg kind c)))).take (j - 2) := by
    rw [e0, List.take_append, List.take_of_length_le (by simpa using h4), List.append_assoc]; rfl
   have hll : (l ++ [76, UInt8.ofNat kind.toNat]).length = l.length + 2 := by simp
   rcases Nat.lt_or_ge (j - 2) (enc c.length).length with h5 | h5
   ·have he : rdE (l ++ (fseal kind c).take j) ((l.length + 2 : Nat) : Int) = 4 := by
     rw [e1, List.take_append_of_le_length (by omega), ← hll]
     have hr := rdv_cut 9 10 0 (zig c.length) (j - 2) (by omega) (by omega) (by omega) (by have := zig_lt (n := (c.length : Int)) (by omega) (by omega); simpa using this) h5
     rw [rdE_in (by simp), List.drop_left' rfl]
     unfold enc
     rw [hr]; rfl
    rw [op_int hm (by rw [he]; omega), he]
   ·obtain ⟨r1, r2, r3⟩ := enc_read (l ++ [76, UInt8.ofNat kind.toNat]) (c.length : Int) ((c ++ tail4 (crc (fmsg kind c))).take (j - 2 - (enc c.length).length)) (by omega) (by omega)
    have e2 : l ++ (fseal kind c).take j = (l ++ [76, UInt8.ofNat kind.toNat]) ++ (enc c.length ++ (c ++ tail4 (crc (fmsg kind c))).take (j - 2 - (enc c.length).length)) := by
     rw [e1, List.take_append, List.take_of_length_le h5]
    rw [← e2, hll] at r1 r2 r3
    refine op_short hm r1 (by rw [r2]; omega) ?_
    rw [r2, r3, hlen]; omega
/-! ### the checksum of a whole frame -/
/-! ### all frames -/
end Go.Proofs.YtcomeidcmcegfaaGreatDoor
namespace Go.Proofs.YtcomeidcmcegfaaGreatDoor
open Go.RowKit
set_option linter.unusedVariables false
/-! ### Hex and Unhex -/
/-! ### the hash -/
/-! ### bytes that are changed -/
end Go.Proofs.YtcomeidcmcegfaaGreatDoor
namespace Go.Proofs.YtcomeidcmcegfaaGreatDoor
open Go.RowKit
set_option linter.unusedVariables false
/-! ### inverted bits -/
/-! ### frames one after the other -/
def whole : List (Int × List UInt8) → Nat → List (Int × List UInt8) × Nat
 | [], _ => ([], 0)
 | p :: ps, c => if (fseal p.1 p.2).length ≤ c then (p :: (whole ps (c - (fseal p.1 p.2).length)).1, (fseal p.1 p.2).length + (whole ps (c - (fseal p.1 p.2).length)).2) else ([], 0)
end Go.Proofs.YtcomeidcmcegfaaGreatDoor
