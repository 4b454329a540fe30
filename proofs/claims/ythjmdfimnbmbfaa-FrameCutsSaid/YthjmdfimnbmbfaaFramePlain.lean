/-
  The plain functions of layer 6 (frame) and their laws: a frame is opened to what was sealed; what is opened was sealed; a frame that is cut is too short; the checksum of a frame. Conditions: none; no program in sight.
-/
import Derived.Test.YthjmdfimnbmbfaaCrcMath
import Derived.Test.YthjmdfimnbmbfaaWireBits
namespace Go.Proofs.Ythjmdfimnbmbfaa
open Go.RowKit
set_option linter.unusedVariables false

def tail4 (n : Nat) : List UInt8 := [UInt8.ofNat (n % 256), UInt8.ofNat (n / 256 % 256), UInt8.ofNat (n / 65536 % 256), UInt8.ofNat (n / 16777216 % 256)]
theorem tail4_length (n : Nat) : (tail4 n).length = 4 := rfl
def fhead (kind : Int) (n : Nat) : List UInt8 := 76 :: UInt8.ofNat kind.toNat :: enc n
def fmsg (kind : Int) (b : List UInt8) : List UInt8 := fhead kind b.length ++ b
def fseal (kind : Int) (b : List UInt8) : List UInt8 := fmsg kind b ++ tail4 (crc (fmsg kind b))
theorem fhead_length (kind : Int) (n : Nat) : (fhead kind n).length = 2 + (enc n).length := by simp [fhead]; omega
theorem fmsg_length (kind : Int) (b : List UInt8) : (fmsg kind b).length = 2 + (enc b.length).length + b.length := by unfold fmsg; rw [List.length_append, fhead_length]
theorem fseal_length (kind : Int) (b : List UInt8) : (fseal kind b).length = 2 + (enc b.length).length + b.length + 4 := by unfold fseal; rw [List.length_append, fmsg_length, tail4_length]

/-- Seal: the error -/
def slE (kind : Int) (n : Nat) : Int := if kind < 1 ∨ 255 < kind then 1 else if 1048576 < n then 5 else 0
def slB (kind : Int) (b : List UInt8) : List UInt8 := if slE kind b.length = 0 then fseal kind b else []

/-- Open: the error, the kind, the content, the index behind the frame -/
def opN (b : List UInt8) (k : Nat) : Int × Int × List UInt8 × Int :=
  if k = b.length then (4, 0, [], 0) else
  if (b.getD k 0).toNat ≠ 76 then (3, 0, [], 0) else
  if k + 1 = b.length then (4, 0, [], 0) else
  if (b.getD (k + 1) 0).toNat = 0 then (3, 0, [], 0) else
  if rdE b ((k + 2 : Nat) : Int) ≠ 0 then (rdE b ((k + 2 : Nat) : Int), 0, [], 0) else
  if rdN b ((k + 2 : Nat) : Int) < 0 ∨ 1048576 < rdN b ((k + 2 : Nat) : Int) then (3, 0, [], 0) else
  if (b.length : Int) - rdT b ((k + 2 : Nat) : Int) < rdN b ((k + 2 : Nat) : Int) + 4 then (4, 0, [], 0) else
  if (b.drop ((rdT b ((k + 2 : Nat) : Int)).toNat + (rdN b ((k + 2 : Nat) : Int)).toNat)).take 4 ≠ tail4 (crc ((b.drop k).take ((rdT b ((k + 2 : Nat) : Int)).toNat + (rdN b ((k + 2 : Nat) : Int)).toNat - k))) then (6, 0, [], 0) else
  (0, ((b.getD (k + 1) 0).toNat : Int), (b.drop (rdT b ((k + 2 : Nat) : Int)).toNat).take (rdN b ((k + 2 : Nat) : Int)).toNat, rdT b ((k + 2 : Nat) : Int) + rdN b ((k + 2 : Nat) : Int) + 4)
def opR (b : List UInt8) (a : Int) : Int × Int × List UInt8 × Int := if a < 0 ∨ (b.length : Int) < a then (2, 0, [], 0) else opN b a.toNat
def opE (b : List UInt8) (a : Int) : Int := (opR b a).1
def opK (b : List UInt8) (a : Int) : Int := (opR b a).2.1
def opC (b : List UInt8) (a : Int) : List UInt8 := (opR b a).2.2.1
def opT (b : List UInt8) (a : Int) : Int := (opR b a).2.2.2

section
variable {b : List UInt8} {k : Nat}
theorem op_range {a : Int} (h : a < 0 ∨ (b.length : Int) < a) : opR b a = (2, 0, [], 0) := by unfold opR; rw [if_pos h]
theorem op_in (h : k ≤ b.length) : opR b (k : Int) = opN b k := by unfold opR; rw [if_neg (by omega), Int.toNat_natCast]
theorem op_end (h : k = b.length) : opR b (k : Int) = (4, 0, [], 0) := by rw [op_in (by omega), opN, if_pos h]
theorem op_mark (h : k < b.length) (h1 : b[k].toNat ≠ 76) : opR b (k : Int) = (3, 0, [], 0) := by
  rw [op_in (by omega), opN, if_neg (by omega), if_pos (by simpa [List.getD, h] using h1)]
theorem op_one (h : k < b.length) (h1 : b[k].toNat = 76) (h2 : k + 1 = b.length) : opR b (k : Int) = (4, 0, [], 0) := by
  rw [op_in (by omega), opN, if_neg (by omega), if_neg (by simpa [List.getD, h] using h1), if_pos h2]
theorem op_zero (h : k + 1 < b.length) (h1 : b[k].toNat = 76) (h2 : b[k + 1].toNat = 0) : opR b (k : Int) = (3, 0, [], 0) := by
  rw [op_in (by omega), opN, if_neg (by omega), if_neg (by simpa [List.getD, show k < b.length by omega] using h1), if_neg (by omega), if_pos (by simpa [List.getD, h] using h2)]
/-- the mark and the kind are there -/
def Marked (b : List UInt8) (k : Nat) : Prop := k + 1 < b.length ∧ (b.getD k 0).toNat = 76 ∧ (b.getD (k + 1) 0).toNat ≠ 0
theorem Marked.mk' (h : k + 1 < b.length) (h1 : b[k].toNat = 76) (h2 : b[k + 1].toNat ≠ 0) : Marked b k :=
  ⟨h, by simpa [List.getD, show k < b.length by omega] using h1, by simpa [List.getD, h] using h2⟩
theorem Marked.go (h : Marked b k) : opR b (k : Int) =
    if rdE b ((k + 2 : Nat) : Int) ≠ 0 then (rdE b ((k + 2 : Nat) : Int), 0, [], 0) else
    if rdN b ((k + 2 : Nat) : Int) < 0 ∨ 1048576 < rdN b ((k + 2 : Nat) : Int) then (3, 0, [], 0) else
    if (b.length : Int) - rdT b ((k + 2 : Nat) : Int) < rdN b ((k + 2 : Nat) : Int) + 4 then (4, 0, [], 0) else
    if (b.drop ((rdT b ((k + 2 : Nat) : Int)).toNat + (rdN b ((k + 2 : Nat) : Int)).toNat)).take 4 ≠ tail4 (crc ((b.drop k).take ((rdT b ((k + 2 : Nat) : Int)).toNat + (rdN b ((k + 2 : Nat) : Int)).toNat - k))) then (6, 0, [], 0) else
    (0, ((b.getD (k + 1) 0).toNat : Int), (b.drop (rdT b ((k + 2 : Nat) : Int)).toNat).take (rdN b ((k + 2 : Nat) : Int)).toNat, rdT b ((k + 2 : Nat) : Int) + rdN b ((k + 2 : Nat) : Int) + 4) := by
  obtain ⟨h0, h1, h2⟩ := h
  rw [op_in (by omega), opN, if_neg (by omega), if_neg (by omega), if_neg (by omega), if_neg (by omega)]
theorem op_int (h : Marked b k) (h3 : rdE b ((k + 2 : Nat) : Int) ≠ 0) : opR b (k : Int) = (rdE b ((k + 2 : Nat) : Int), 0, [], 0) := by rw [h.go, if_pos h3]
theorem op_size (h : Marked b k) (h3 : rdE b ((k + 2 : Nat) : Int) = 0) (h4 : rdN b ((k + 2 : Nat) : Int) < 0 ∨ 1048576 < rdN b ((k + 2 : Nat) : Int)) : opR b (k : Int) = (3, 0, [], 0) := by
  rw [h.go, if_neg (by omega), if_pos h4]
theorem op_short (h : Marked b k) (h3 : rdE b ((k + 2 : Nat) : Int) = 0) (h4 : ¬ (rdN b ((k + 2 : Nat) : Int) < 0 ∨ 1048576 < rdN b ((k + 2 : Nat) : Int)))
    (h5 : (b.length : Int) - rdT b ((k + 2 : Nat) : Int) < rdN b ((k + 2 : Nat) : Int) + 4) : opR b (k : Int) = (4, 0, [], 0) := by
  rw [h.go, if_neg (by omega), if_neg h4, if_pos h5]
/-- the place of the content and its length -/
structure Framed (b : List UInt8) (k T N : Nat) : Prop where
  m : Marked b k
  e : rdE b ((k + 2 : Nat) : Int) = 0
  n : rdN b ((k + 2 : Nat) : Int) = (N : Int)
  t : rdT b ((k + 2 : Nat) : Int) = (T : Int)
  le : N ≤ 1048576
  lt : k + 2 < T
  fit : T + N + 4 ≤ b.length
theorem Framed.of (h : Marked b k) (h3 : rdE b ((k + 2 : Nat) : Int) = 0) (h4 : ¬ (rdN b ((k + 2 : Nat) : Int) < 0 ∨ 1048576 < rdN b ((k + 2 : Nat) : Int)))
    (h5 : ¬ (b.length : Int) - rdT b ((k + 2 : Nat) : Int) < rdN b ((k + 2 : Nat) : Int) + 4) : ∃ T N, Framed b k T N := by
  obtain ⟨b1, b2, b3, b4⟩ := read_bound h3
  exact ⟨(rdT b ((k + 2 : Nat) : Int)).toNat, (rdN b ((k + 2 : Nat) : Int)).toNat, h, h3, by omega, by omega, by omega, by omega, by omega⟩
theorem Framed.go {T N : Nat} (h : Framed b k T N) : opR b (k : Int) =
    if (b.drop (T + N)).take 4 ≠ tail4 (crc ((b.drop k).take (T + N - k))) then (6, 0, [], 0) else (0, ((b.getD (k + 1) 0).toNat : Int), (b.drop T).take N, (T : Int) + N + 4) := by
  have h5 := h.fit
  have h6 := h.le
  rw [h.m.go, if_neg (by rw [h.e]; omega), if_neg (by rw [h.n]; omega), if_neg (by rw [h.n, h.t]; omega), h.n, h.t, Int.toNat_natCast, Int.toNat_natCast]
theorem op_sum {T N : Nat} (h : Framed b k T N) (h6 : (b.drop (T + N)).take 4 ≠ tail4 (crc ((b.drop k).take (T + N - k)))) : opR b (k : Int) = (6, 0, [], 0) := by rw [h.go, if_pos h6]
theorem op_ok {T N : Nat} (h : Framed b k T N) (h6 : (b.drop (T + N)).take 4 = tail4 (crc ((b.drop k).take (T + N - k)))) :
    opR b (k : Int) = (0, ((b.getD (k + 1) 0).toNat : Int), (b.drop T).take N, (T : Int) + N + 4) := by rw [h.go, if_neg (by simpa using h6)]
end

theorem getD_append_right (l m : List UInt8) (j : Nat) : (l ++ m).getD (l.length + j) 0 = m.getD j 0 := by
  simp [List.getD, List.getElem?_append_right (show l.length ≤ l.length + j by omega)]
theorem opE_cases (b : List UInt8) (a : Int) : opE b a = 0 ∨ opR b a = (opE b a, 0, [], 0) := by
  unfold opE
  by_cases h0 : a < 0 ∨ (b.length : Int) < a
  · rw [op_range h0]; right; rfl
  · obtain ⟨k, rfl⟩ : ∃ k : Nat, a = k := ⟨a.toNat, by omega⟩
    rw [op_in (by omega), opN]
    repeat (split; · right; rfl)
    left; rfl
/-- what Open accepts -/
theorem op_inv {b : List UInt8} {a : Int} (h : opE b a = 0) : ∃ k T N : Nat, a = (k : Int) ∧ Framed b k T N ∧ (b.drop (T + N)).take 4 = tail4 (crc ((b.drop k).take (T + N - k))) := by
  unfold opE at h
  by_cases h0 : a < 0 ∨ (b.length : Int) < a
  · rw [op_range h0] at h; cases h
  · obtain ⟨k, rfl⟩ : ∃ k : Nat, a = k := ⟨a.toNat, by omega⟩
    have hk : k ≤ b.length := by omega
    by_cases h1 : k = b.length
    · rw [op_end h1] at h; cases h
    · have hk' : k < b.length := by omega
      by_cases h2 : b[k].toNat = 76
      · by_cases h3 : k + 1 = b.length
        · rw [op_one hk' h2 h3] at h; cases h
        · have hk2 : k + 1 < b.length := by omega
          by_cases h4 : b[k + 1].toNat = 0
          · rw [op_zero hk2 h2 h4] at h; cases h
          · have hm := Marked.mk' hk2 h2 h4
            by_cases h5 : rdE b ((k + 2 : Nat) : Int) = 0
            · by_cases h6 : rdN b ((k + 2 : Nat) : Int) < 0 ∨ 1048576 < rdN b ((k + 2 : Nat) : Int)
              · rw [op_size hm h5 h6] at h; cases h
              · by_cases h7 : (b.length : Int) - rdT b ((k + 2 : Nat) : Int) < rdN b ((k + 2 : Nat) : Int) + 4
                · rw [op_short hm h5 h6 h7] at h; cases h
                · obtain ⟨T, N, hf⟩ := Framed.of hm h5 h6 h7
                  by_cases h8 : (b.drop (T + N)).take 4 = tail4 (crc ((b.drop k).take (T + N - k)))
                  · exact ⟨k, T, N, rfl, hf, h8⟩
                  · rw [op_sum hf h8] at h; cases h
            · rw [op_int hm h5] at h; exact absurd h h5
      · rw [op_mark hk' h2] at h; cases h
theorem op_next {b : List UInt8} {a : Int} (h : opE b a = 0) : 0 ≤ a ∧ a + 7 ≤ opT b a ∧ opT b a ≤ b.length := by
  obtain ⟨k, T, N, rfl, hf, h8⟩ := op_inv h
  unfold opT
  rw [op_ok hf h8]
  have := hf.lt
  have := hf.fit
  refine ⟨by omega, ?_, ?_⟩
  · show (k : Int) + 7 ≤ (T : Int) + N + 4; omega
  · show (T : Int) + N + 4 ≤ b.length; omega

theorem kind_byte {kind : Int} (h1 : 1 ≤ kind) (h2 : kind ≤ 255) : ((UInt8.ofNat kind.toNat).toNat : Int) = kind := by
  rw [UInt8.toNat_ofNat']; omega
/-- the parts of a frame behind other bytes -/
theorem framed_seal (l s : List UInt8) (kind : Int) (c : List UInt8) (h1 : 1 ≤ kind) (h2 : kind ≤ 255) (h3 : c.length ≤ 1048576) :
    Framed (l ++ (fseal kind c ++ s)) l.length (l.length + 2 + (enc c.length).length) c.length ∧
    ((l ++ (fseal kind c ++ s)).drop (l.length + 2 + (enc c.length).length + c.length)).take 4 = tail4 (crc (((l ++ (fseal kind c ++ s)).drop l.length).take (l.length + 2 + (enc c.length).length + c.length - l.length))) ∧
    ((l ++ (fseal kind c ++ s)).drop (l.length + 2 + (enc c.length).length)).take c.length = c ∧ (((l ++ (fseal kind c ++ s)).getD (l.length + 1) 0).toNat : Int) = kind := by
  have hk := kind_byte h1 h2
  have hl := enc_length (c.length : Int)
  have e1 : l ++ (fseal kind c ++ s) = (l ++ [76, UInt8.ofNat kind.toNat]) ++ (enc c.length ++ (c ++ (tail4 (crc (fmsg kind c)) ++ s))) := by
    simp [fseal, fmsg, fhead]
  have hll : (l ++ [76, UInt8.ofNat kind.toNat]).length = l.length + 2 := by simp
  obtain ⟨r1, r2, r3⟩ := enc_read (l ++ [76, UInt8.ofNat kind.toNat]) (c.length : Int) (c ++ (tail4 (crc (fmsg kind c)) ++ s)) (by omega) (by omega)
  rw [← e1, hll] at r1 r2 r3
  have hlen : (l ++ (fseal kind c ++ s)).length = l.length + (2 + (enc c.length).length + c.length + 4) + s.length := by
    rw [List.length_append, List.length_append, fseal_length]; omega
  have hg0 : (l ++ (fseal kind c ++ s)).getD l.length 0 = 76 := by
    have := getD_append_right l (fseal kind c ++ s) 0
    rw [Nat.add_zero] at this
    rw [this]; rfl
  have hg1 : (l ++ (fseal kind c ++ s)).getD (l.length + 1) 0 = UInt8.ofNat kind.toNat := by
    rw [getD_append_right l (fseal kind c ++ s) 1]; rfl
  have em : (l ++ (fseal kind c ++ s)) = l ++ (fmsg kind c ++ (tail4 (crc (fmsg kind c)) ++ s)) := by simp [fseal]
  have hml := fmsg_length kind c
  refine ⟨⟨⟨by omega, by rw [hg0]; rfl, by rw [hg1]; omega⟩, r1, r2, ?_, h3, by omega, by omega⟩, ?_, ?_, ?_⟩
  · rw [r3]
  · have d1 : (l ++ (fseal kind c ++ s)).drop (l.length + 2 + (enc c.length).length + c.length) = tail4 (crc (fmsg kind c)) ++ s := by
      rw [em, ← List.append_assoc, List.drop_left' (by rw [List.length_append, hml]; omega)]
    have d2 : ((l ++ (fseal kind c ++ s)).drop l.length).take (l.length + 2 + (enc c.length).length + c.length - l.length) = fmsg kind c := by
      rw [em, List.drop_left' rfl, List.take_left' (by rw [hml]; omega)]
    rw [d1, d2]
    exact List.take_left' rfl
  · rw [e1, ← List.append_assoc, List.drop_left' (by rw [List.length_append, hll]), List.take_left' rfl]
  · rw [hg1, hk]
theorem op_seal (l s : List UInt8) (kind : Int) (c : List UInt8) (h1 : 1 ≤ kind) (h2 : kind ≤ 255) (h3 : c.length ≤ 1048576) :
    opR (l ++ (fseal kind c ++ s)) (l.length : Int) = (0, kind, c, (((l ++ fseal kind c).length : Nat) : Int)) := by
  obtain ⟨hf, h8, hc, hk⟩ := framed_seal l s kind c h1 h2 h3
  rw [op_ok hf h8, hc, hk]
  have := fseal_length kind c
  simp only [Prod.mk.injEq, true_and, List.length_append]
  omega
/-- what is opened was sealed -/
theorem seal_op {b : List UInt8} {a : Int} (h : opE b a = 0) : 1 ≤ opK b a ∧ opK b a ≤ 255 ∧ (opC b a).length ≤ 1048576 ∧ (b.drop a.toNat).take ((opT b a).toNat - a.toNat) = fseal (opK b a) (opC b a) := by
  obtain ⟨k, T, N, rfl, hf, h8⟩ := op_inv h
  have h5 := hf.fit
  have h6 := hf.lt
  have h7 := hf.le
  obtain ⟨m0, m1, m2⟩ := hf.m
  have hr := read_enc hf.e
  rw [hf.t, hf.n, Int.toNat_natCast, Int.toNat_natCast] at hr
  unfold opK opC opT
  rw [op_ok hf h8]
  simp only [Int.toNat_natCast]
  have hb := (b.getD (k + 1) 0).toNat_lt
  have hcl : ((b.drop T).take N).length = N := by simp; omega
  refine ⟨by omega, by omega, by omega, ?_⟩
  -- the bytes from k on
  have e2 : b.drop k = 76 :: b.getD (k + 1) 0 :: b.drop (k + 2) := by
    rw [List.drop_eq_getElem_cons (show k < b.length by omega), List.drop_eq_getElem_cons (show k + 1 < b.length by omega)]
    have g0 : b[k] = 76 := by
      apply UInt8.toNat_inj.1
      have := m1; simp [List.getD, show k < b.length by omega] at this; rw [this]; rfl
    have g1 : b.getD (k + 1) 0 = b[k + 1] := by simp [List.getD, m0]
    rw [g0, g1]
  have e3 : (b.drop (k + 2)).take (T - (k + 2)) = enc N := by
    have := congrArg (List.drop (k + 2)) hr
    rw [List.drop_take] at this
    rw [this, List.drop_left' (by simp; omega)]
  have hel : (enc (N : Int)).length = T - (k + 2) := by rw [← e3]; simp; omega
  have e4 : (b.drop k).take (T + N - k) = fmsg ((b.getD (k + 1) 0).toNat : Int) ((b.drop T).take N) := by
    unfold fmsg fhead
    rw [hcl, Int.toNat_natCast, e2, show T + N - k = (T + N - (k + 2)) + 2 by omega]
    simp only [List.take_succ_cons, List.cons_append]
    rw [show UInt8.ofNat (b.getD (k + 1) 0).toNat = b.getD (k + 1) 0 by simp]
    congr 2
    rw [show T + N - (k + 2) = (T - (k + 2)) + N by omega, List.take_add, e3, List.drop_drop, show k + 2 + (T - (k + 2)) = T by omega]
  rw [show ((T : Int) + N + 4).toNat - k = (T + N - k) + 4 by omega, List.take_add, e4, List.drop_drop, show k + (T + N - k) = T + N by omega, h8, e4]
  rfl
/-- a frame that is cut is too short -/
theorem op_cut (l : List UInt8) (kind : Int) (c : List UInt8) (j : Nat) (h1 : 1 ≤ kind) (h2 : kind ≤ 255) (h3 : c.length ≤ 1048576) (hj : j < (fseal kind c).length) :
    opR (l ++ (fseal kind c).take j) (l.length : Int) = (4, 0, [], 0) := by
  have hk := kind_byte h1 h2
  have hl := enc_length (c.length : Int)
  have hs := fseal_length kind c
  have hlen : (l ++ (fseal kind c).take j).length = l.length + j := by simp; omega
  rcases Nat.eq_zero_or_pos j with h0 | h0
  · exact op_end (by omega)
  · have hg0 : ∀ (h : l.length < (l ++ (fseal kind c).take j).length), (l ++ (fseal kind c).take j)[l.length] = 76 := fun h => by
      rw [List.getElem_append_right (by omega)]
      simp [fseal, fmsg, fhead]
    rcases Nat.lt_or_ge j 2 with h4 | h4
    · exact op_one (by omega) (by rw [hg0 (by omega)]; rfl) (by omega)
    · have hg1 : ∀ (h : l.length + 1 < (l ++ (fseal kind c).take j).length), (l ++ (fseal kind c).take j)[l.length + 1] = UInt8.ofNat kind.toNat := fun h => by
        rw [List.getElem_append_right (by omega)]
        simp [fseal, fmsg, fhead]
      have hm : Marked (l ++ (fseal kind c).take j) l.length := Marked.mk' (by omega) (by rw [hg0 (by omega)]; rfl) (by rw [hg1 (by omega)]; omega)
      have e0 : fseal kind c = [76, UInt8.ofNat kind.toNat] ++ (enc c.length ++ (c ++ tail4 (crc (fmsg kind c)))) := by simp [fseal, fmsg, fhead]
      have e1 : l ++ (fseal kind c).take j = (l ++ [76, UInt8.ofNat kind.toNat]) ++ (enc c.length ++ (c ++ tail4 (crc (fmsg kind c)))).take (j - 2) := by
        rw [e0, List.take_append, List.take_of_length_le (by simpa using h4), List.append_assoc]; rfl
      have hll : (l ++ [76, UInt8.ofNat kind.toNat]).length = l.length + 2 := by simp
      rcases Nat.lt_or_ge (j - 2) (enc c.length).length with h5 | h5
      · have he : rdE (l ++ (fseal kind c).take j) ((l.length + 2 : Nat) : Int) = 4 := by
          rw [e1, List.take_append_of_le_length (by omega), ← hll]
          have hr := rdv_cut 9 10 0 (zig c.length) (j - 2) (by omega) (by omega) (by omega) (by have := zig_lt (n := (c.length : Int)) (by omega) (by omega); simpa using this) h5
          rw [rdE_in (by simp), List.drop_left' rfl]
          unfold enc
          rw [hr]; rfl
        rw [op_int hm (by rw [he]; omega), he]
      · obtain ⟨r1, r2, r3⟩ := enc_read (l ++ [76, UInt8.ofNat kind.toNat]) (c.length : Int) ((c ++ tail4 (crc (fmsg kind c))).take (j - 2 - (enc c.length).length)) (by omega) (by omega)
        have e2 : l ++ (fseal kind c).take j = (l ++ [76, UInt8.ofNat kind.toNat]) ++ (enc c.length ++ (c ++ tail4 (crc (fmsg kind c))).take (j - 2 - (enc c.length).length)) := by
          rw [e1, List.take_append, List.take_of_length_le h5]
        rw [← e2, hll] at r1 r2 r3
        refine op_short hm r1 (by rw [r2]; omega) ?_
        rw [r2, r3, hlen]; omega

/-! ### the checksum of a whole frame -/
theorem bitsOf_add (j : Nat) : ∀ (k c : Nat), bitsOf (j + k) c = bitsOf j c ++ bitsOf k (c / 2 ^ j) := by
  induction j with
  | zero => intro k c; simp [bitsOf]
  | succ j ih =>
    intro k c
    rw [show j + 1 + k = (j + k) + 1 by omega, bitsOf, bitsOf, ih, List.cons_append, Nat.div_div_eq_div_mul, Nat.pow_succ, Nat.mul_comm 2]
theorem bitsOf_mod (j : Nat) : ∀ c, bitsOf j (c % 2 ^ j) = bitsOf j c := by
  induction j with
  | zero => intro c; rfl
  | succ j ih =>
    intro c
    rw [bitsOf, bitsOf]
    have e1 : c % 2 ^ (j + 1) % 2 = c % 2 := by rw [Nat.pow_succ, Nat.mul_comm, Nat.mod_mul_right_mod]
    have e2 : c % 2 ^ (j + 1) / 2 = c / 2 % 2 ^ j := by rw [Nat.pow_succ, Nat.mul_comm, Nat.mod_mul_right_div_self]
    rw [e1, e2, ih]
theorem bitL_tail (n : Nat) : bitL (tail4 n) = bitsOf 32 n := by
  have hb : ∀ x, (UInt8.ofNat (x % 256)).toNat = x % 256 := fun x => by rw [UInt8.toNat_ofNat']; omega
  have h8 : ∀ c, bitsOf 8 (c % 256) = bitsOf 8 c := fun c => bitsOf_mod 8 c
  show bitsOf 8 _ ++ (bitsOf 8 _ ++ (bitsOf 8 _ ++ (bitsOf 8 _ ++ []))) = _
  rw [hb, hb, hb, hb, h8, h8, h8, h8, show (32 : Nat) = 8 + (8 + (8 + (8 + 0))) from rfl, bitsOf_add, bitsOf_add, bitsOf_add, bitsOf_add, Nat.div_div_eq_div_mul, Nat.div_div_eq_div_mul]
  rfl
theorem crc_residue (m : List UInt8) : creg (m ++ tail4 (crc m)) = cstepN 32 4294967295 := by
  unfold creg
  rw [List.foldl_append, fold_bits (tail4 _), bitL_tail, bits_step 32 _ _ (crc_lt m)]
  show cstepN 32 (creg m ^^^ (creg m ^^^ 4294967295)) = _
  rw [← Nat.xor_assoc, Nat.xor_self, Nat.zero_xor]
/-- two runs of bytes, each with its checksum behind it, that differ only among 32 consecutive bits are one -/
theorem sealed_burst (a b : List UInt8) (k : Nat) (hl : a.length = b.length) (hd : ∀ i, ¬ (k ≤ i ∧ i < k + 32) → (bitL (a ++ tail4 (crc a)))[i]? = (bitL (b ++ tail4 (crc b)))[i]?) : a = b := by
  have h : crc (a ++ tail4 (crc a)) = crc (b ++ tail4 (crc b)) := by unfold crc; rw [show creg (a ++ tail4 (creg a ^^^ 4294967295)) = _ from crc_residue a, show creg (b ++ tail4 (creg b ^^^ 4294967295)) = _ from crc_residue b]
  have := crc_burst _ _ k (by simp [tail4_length, hl]) hd h
  exact (List.append_inj this hl).1

/-! ### all frames -/
/-- at most f frames from an index on: kinds and contents, and where they end -/
def allF (b : List UInt8) : Nat → Int → List (Int × List UInt8) × Int
  | 0, q => ([], q)
  | f+1, q => if opE b q = 0 then ((opK b q, opC b q) :: (allF b f (opT b q)).1, (allF b f (opT b q)).2) else ([], q)
def allR (b : List UInt8) : List (Int × List UInt8) × Int := allF b (b.length + 1) 0
theorem allF_more (b : List UInt8) : ∀ (f g : Nat) (q : Int), 0 ≤ q → (b.length : Int) < q + f → f ≤ g → allF b g q = allF b f q := by
  intro f
  induction f with
  | zero =>
    intro g q h0 h1 _
    rcases g with _ | g
    · rfl
    · have : opE b q ≠ 0 := fun he => by have := op_next he; omega
      show (if opE b q = 0 then _ else _) = _
      rw [if_neg this]; rfl
  | succ f ih =>
    intro g q h0 h1 h2
    obtain ⟨g, rfl⟩ : ∃ g', g = g' + 1 := ⟨g - 1, by omega⟩
    rw [allF, allF]
    by_cases he : opE b q = 0
    · rw [if_pos he, if_pos he]
      have := op_next he
      rw [ih g (opT b q) (by omega) (by omega) (by omega)]
    · rw [if_neg he, if_neg he]
end Go.Proofs.Ythjmdfimnbmbfaa
