/-
  Plain laws of UTF-8: the reference's decoder ('goodR', 'ptR', 'widR') and Go's own ('Lib.decodeL', 'Lib.validD') agree; control bytes and control points are the same. Conditions: none; no program in sight.
-/
import Derived.Lib.TrimUEq
import Derived.Lib.ValidU
import Derived.Lib.MapLaws
import Derived.WalkKit
namespace Go.Proofs.YtcomeidcmcegfaaGreatDoor
open Go.RowKit Go.Lib
set_option linter.unusedVariables false
def hd8 (l : List UInt8) : Nat := (l.getD 0 0).toNat
def leadN (b : Nat) : Nat := if 240 ≤ b then 4 else if 224 ≤ b then 3 else if 192 ≤ b then 2 else 1
def leadP (b : Nat) : Nat := if 240 ≤ b then b - 240 else if 224 ≤ b then b - 224 else if 192 ≤ b then b - 192 else b
def accP (p : Nat) (l : List UInt8) : Nat := l.foldl (fun p c => p * 64 + c.toNat % 64) p
def widR (l : List UInt8) : Nat := leadN (hd8 l)
def ptR (l : List UInt8) : Nat := accP (leadP (hd8 l)) ((l.drop 1).take (widR l - 1))
def scalB (p : Int) : Bool := decide (0 ≤ p ∧ p ≤ 1114111 ∧ (p < 55296 ∨ 57343 < p))
def encR (p : Nat) : List UInt8 :=
 if p < 128 then [UInt8.ofNat p] else if p < 2048 then [UInt8.ofNat (192 + p / 64), UInt8.ofNat (128 + p % 64)]
 else if p < 65536 then [UInt8.ofNat (224 + p / 4096), UInt8.ofNat (128 + p / 64 % 64), UInt8.ofNat (128 + p % 64)]
 else [UInt8.ofNat (240 + p / 262144), UInt8.ofNat (128 + p / 4096 % 64), UInt8.ofNat (128 + p / 64 % 64), UInt8.ofNat (128 + p % 64)]
def goodR (l : List UInt8) : Bool := decide (widR l ≤ l.length) && scalB (ptR l : Int) && decide (encR (ptR l) = l.take (widR l))
theorem ofNat_eq (x : Nat) (c : UInt8) (h : x < 256) : UInt8.ofNat x = c ↔ x = c.toNat := by
 constructor
 ·intro e; rw [← e, UInt8.toNat_ofNat']; omega
 ·intro e; rw [e]; simp
theorem goodR_iff (l : List UInt8) : goodR l = true ↔ widR l ≤ l.length ∧ (ptR l ≤ 1114111 ∧ (ptR l < 55296 ∨ 57343 < ptR l)) ∧ encR (ptR l) = l.take (widR l) := by
 unfold goodR scalB
 simp only [Bool.and_eq_true, decide_eq_true_eq]
 constructor
 ·rintro ⟨⟨h1, h2⟩, h3⟩; exact ⟨h1, by omega, h3⟩
 ·rintro ⟨h1, h2, h3⟩; exact ⟨⟨h1, by omega⟩, h3⟩
set_option maxHeartbeats 4000000 in
theorem good_dec (l : List UInt8) (hne : l ≠ []) : (goodR l = true → decodeL l = (ptR l, widR l) ∧ (widR l = 1 → ptR l = hd8 l ∧ ptR l < 128) ∧ (1 < widR l → 128 ≤ ptR l ∧ ∀ c ∈ l.take (widR l), 128 ≤ c.toNat)) ∧ (goodR l = false → decodeL l = (65533, 1)) := by
 rw [← Bool.not_eq_true, goodR_iff, decodeL_N]
 unfold ptR widR accP
 rcases l with _ | ⟨b0, l⟩
 ·exact absurd rfl hne
 have h0 := b0.toNat_lt
 have e0 : hd8 (b0 :: l) = b0.toNat := rfl
 rw [e0]
 have g0 : (b0 :: l).getD 0 0 = b0 := rfl
 rw [g0]
 unfold leadN leadP
 by_cases c1 : 240 ≤ b0.toNat
 ·simp only [if_pos c1]
  rcases l with _ | ⟨b1, _ | ⟨b2, _ | ⟨b3, l⟩⟩⟩
  all_goals simp only [List.getD, List.drop_succ_cons, List.drop_zero, List.take_succ_cons, List.take_zero, List.take_nil, List.foldl_cons, List.foldl_nil, List.length_cons, List.length_nil, List.getElem?_cons_succ, List.getElem?_cons_zero, Option.getD_some, List.getElem?_nil, Option.getD_none, Nat.reduceSub]
  ·refine ⟨fun h => by omega, fun _ => ?_⟩
   unfold decodeN; repeat' split
   all_goals first | rfl | (exfalso; omega)
  ·refine ⟨fun h => by omega, fun _ => ?_⟩
   unfold decodeN; repeat' split
   all_goals first | rfl | (exfalso; omega)
  ·refine ⟨fun h => by omega, fun _ => ?_⟩
   unfold decodeN; repeat' split
   all_goals first | rfl | (exfalso; omega)
  ·have h1 := b1.toNat_lt
   have h2 := b2.toNat_lt
   have h3 := b3.toNat_lt
   generalize hp : (((b0.toNat - 240) * 64 + b1.toNat % 64) * 64 + b2.toNat % 64) * 64 + b3.toNat % 64 = p
   have he : (p ≤ 1114111 ∧ encR p = [b0, b1, b2, b3]) ↔ (65536 ≤ p ∧ p ≤ 1114111 ∧ b1.toNat / 64 = 2 ∧ b2.toNat / 64 = 2 ∧ b3.toNat / 64 = 2) := by
    unfold encR
    by_cases q1 : p < 128
    ·rw [if_pos q1]; simp; omega
    ·rw [if_neg q1]
     by_cases q2 : p < 2048
     ·rw [if_pos q2]; simp; omega
     ·rw [if_neg q2]
      by_cases q3 : p < 65536
      ·rw [if_pos q3]; simp; omega
      ·rw [if_neg q3]
       constructor
       ·rintro ⟨q4, q5⟩
        simp only [List.cons.injEq, and_true] at q5
        rw [ofNat_eq _ _ (by omega), ofNat_eq _ _ (by omega), ofNat_eq _ _ (by omega), ofNat_eq _ _ (by omega)] at q5
        omega
       ·rintro ⟨_, q4, q5, q6, q7⟩
        refine ⟨q4, ?_⟩
        simp only [List.cons.injEq, and_true]
        rw [ofNat_eq _ _ (by omega), ofNat_eq _ _ (by omega), ofNat_eq _ _ (by omega), ofNat_eq _ _ (by omega)]
        omega
   constructor
   ·rintro ⟨_, hs, hE⟩
    obtain ⟨k1, k2, k3, k4, k5⟩ := he.1 ⟨hs.1, hE⟩
    refine ⟨?_, fun h => by omega, fun _ => ⟨by omega, ?_⟩⟩
    ·unfold decodeN
     rw [if_neg (by omega), if_neg (by omega), if_neg (by omega), if_pos (by omega), if_pos (by omega)]
     exact Prod.ext (by simp only; omega) rfl
    ·intro c hc
     simp only [List.mem_cons, List.not_mem_nil, or_false] at hc
     rcases hc with rfl | rfl | rfl | rfl <;> omega
   ·intro hn
    have hn' : ¬ (65536 ≤ p ∧ p ≤ 1114111 ∧ b1.toNat / 64 = 2 ∧ b2.toNat / 64 = 2 ∧ b3.toNat / 64 = 2) := fun h => hn ⟨by omega, ⟨h.2.1, by omega⟩, (he.2 h).2⟩
    unfold decodeN
    rw [if_neg (by omega), if_neg (by omega), if_neg (by omega)]
    split
    ·rw [if_neg (by omega)]
    ·rfl
 ·simp only [if_neg c1]
  by_cases c2 : 224 ≤ b0.toNat
  ·simp only [if_pos c2]
   rcases l with _ | ⟨b1, _ | ⟨b2, l⟩⟩
   all_goals simp only [List.getD, List.drop_succ_cons, List.drop_zero, List.take_succ_cons, List.take_zero, List.take_nil, List.foldl_cons, List.foldl_nil, List.length_cons, List.length_nil, List.getElem?_cons_succ, List.getElem?_cons_zero, Option.getD_some, List.getElem?_nil, Option.getD_none, Nat.reduceSub]
   ·refine ⟨fun h => by omega, fun _ => ?_⟩
    unfold decodeN; repeat' split
    all_goals first | rfl | (exfalso; omega)
   ·refine ⟨fun h => by omega, fun _ => ?_⟩
    unfold decodeN; repeat' split
    all_goals first | rfl | (exfalso; omega)
   ·have h1 := b1.toNat_lt
    have h2 := b2.toNat_lt
    generalize hp : ((b0.toNat - 224) * 64 + b1.toNat % 64) * 64 + b2.toNat % 64 = p
    have he : encR p = [b0, b1, b2] ↔ (2048 ≤ p ∧ b1.toNat / 64 = 2 ∧ b2.toNat / 64 = 2) := by
     unfold encR
     by_cases q1 : p < 128
     ·rw [if_pos q1]; simp; omega
     ·rw [if_neg q1]
      by_cases q2 : p < 2048
      ·rw [if_pos q2]; simp; omega
      ·rw [if_neg q2, if_pos (by omega)]
       constructor
       ·intro q5
        simp only [List.cons.injEq, and_true] at q5
        rw [ofNat_eq _ _ (by omega), ofNat_eq _ _ (by omega), ofNat_eq _ _ (by omega)] at q5
        omega
       ·rintro ⟨q4, q5, q6⟩
        simp only [List.cons.injEq, and_true]
        rw [ofNat_eq _ _ (by omega), ofNat_eq _ _ (by omega), ofNat_eq _ _ (by omega)]
        omega
    constructor
    ·rintro ⟨_, hs, hE⟩
     obtain ⟨k1, k2, k3⟩ := he.1 hE
     refine ⟨?_, fun h => by omega, fun _ => ⟨by omega, ?_⟩⟩
     ·unfold decodeN
      rw [if_neg (by omega), if_neg (by omega), if_pos (by omega), if_pos (by omega)]
      exact Prod.ext (by simp only; omega) rfl
     ·intro c hc
      simp only [List.mem_cons, List.not_mem_nil, or_false] at hc
      rcases hc with rfl | rfl | rfl <;> omega
    ·intro hn
     have hn' : ¬ ((p < 55296 ∨ 57343 < p) ∧ 2048 ≤ p ∧ b1.toNat / 64 = 2 ∧ b2.toNat / 64 = 2) := fun h => hn ⟨by omega, ⟨by omega, h.1⟩, he.2 h.2⟩
     unfold decodeN
     rw [if_neg (by omega), if_neg (by omega)]
     split
     ·rw [if_neg (by omega)]
     ·rw [if_neg (by omega)]
  ·simp only [if_neg c2]
   by_cases c3 : 192 ≤ b0.toNat
   ·simp only [if_pos c3]
    rcases l with _ | ⟨b1, l⟩
    all_goals simp only [List.getD, List.drop_succ_cons, List.drop_zero, List.take_succ_cons, List.take_zero, List.take_nil, List.foldl_cons, List.foldl_nil, List.length_cons, List.length_nil, List.getElem?_cons_succ, List.getElem?_cons_zero, Option.getD_some, List.getElem?_nil, Option.getD_none, Nat.reduceSub]
    ·refine ⟨fun h => by omega, fun _ => ?_⟩
     unfold decodeN; repeat' split
     all_goals first | rfl | (exfalso; omega)
    ·have h1 := b1.toNat_lt
     generalize hp : (b0.toNat - 192) * 64 + b1.toNat % 64 = p
     have he : encR p = [b0, b1] ↔ (128 ≤ p ∧ b1.toNat / 64 = 2) := by
      unfold encR
      by_cases q1 : p < 128
      ·rw [if_pos q1]; simp; omega
      ·rw [if_neg q1, if_pos (by omega)]
       constructor
       ·intro q5
        simp only [List.cons.injEq, and_true] at q5
        rw [ofNat_eq _ _ (by omega), ofNat_eq _ _ (by omega)] at q5
        omega
       ·rintro ⟨q4, q5⟩
        simp only [List.cons.injEq, and_true]
        rw [ofNat_eq _ _ (by omega), ofNat_eq _ _ (by omega)]
        omega
     constructor
     ·rintro ⟨_, hs, hE⟩
      obtain ⟨k1, k2⟩ := he.1 hE
      refine ⟨?_, fun h => by omega, fun _ => ⟨by omega, ?_⟩⟩
      ·unfold decodeN
       rw [if_neg (by omega), if_pos (by omega), if_pos (by omega)]
       exact Prod.ext (by simp only; omega) rfl
      ·intro c hc
       simp only [List.mem_cons, List.not_mem_nil, or_false] at hc
       rcases hc with rfl | rfl <;> omega
     ·intro hn
      have hn' : ¬ (128 ≤ p ∧ b1.toNat / 64 = 2) := fun h => hn ⟨by omega, ⟨by omega, by omega⟩, he.2 h⟩
      unfold decodeN
      rw [if_neg (by omega)]
      split
      ·rw [if_neg (by omega)]
      ·rw [if_neg (by omega), if_neg (by omega)]
   ·simp only [if_neg c3, List.take_succ_cons, List.take_zero, Nat.sub_self, List.foldl_nil, List.length_cons]
    have he : encR b0.toNat = [b0] ↔ b0.toNat < 128 := by
     unfold encR
     by_cases q1 : b0.toNat < 128
     ·rw [if_pos q1]; simp [q1]
     ·rw [if_neg q1, if_pos (by omega)]; simp; omega
    rw [he]
    constructor
    ·rintro ⟨_, hs, hE⟩
     refine ⟨?_, fun _ => ⟨by first | trivial | rfl, hE⟩, fun h => by omega⟩
     unfold decodeN; rw [if_pos hE]
    ·intro hn
     unfold decodeN
     rw [if_neg (by omega), if_neg (by omega), if_neg (by omega), if_neg (by omega)]
def ptsGo : Nat → List UInt8 → Option (List Int)
 | 0, _ => some []
 | f + 1, l => if l = [] then some [] else if goodR l = true then (ptsGo f (l.drop (widR l))).map ((ptR l : Int) :: ·) else none
def ptsOf (l : List UInt8) : Option (List Int) := ptsGo l.length l
theorem widR_pos (l : List UInt8) : 1 ≤ widR l ∧ widR l ≤ 4 := by
 unfold widR leadN
 repeat' split
 all_goals omega
theorem pts_fuel : ∀ (f : Nat) (l : List UInt8), l.length ≤ f → ptsGo f l = ptsOf l := by
 have key : ∀ (n f g : Nat) (l : List UInt8), l.length ≤ n → l.length ≤ f → l.length ≤ g → ptsGo f l = ptsGo g l := by
  intro n
  induction n with
  | zero =>
   intro f g l h0 _ _
   have : l = [] := List.eq_nil_of_length_eq_zero (by omega)
   subst this
   cases f <;> cases g <;> simp [ptsGo]
  | succ n ih =>
   intro f g l h0 hf hg
   rcases l with _ | ⟨b, l⟩
   ·cases f <;> cases g <;> simp [ptsGo]
   ·obtain ⟨f, rfl⟩ : ∃ f', f = f' + 1 := ⟨f - 1, by simp at hf; omega⟩
    obtain ⟨g, rfl⟩ : ∃ g', g = g' + 1 := ⟨g - 1, by simp at hg; omega⟩
    rw [ptsGo, ptsGo]
    have hw := widR_pos (b :: l)
    simp only [List.length_cons] at h0 hf hg
    rw [ih f g _ (by simp only [List.length_drop, List.length_cons]; omega) (by simp only [List.length_drop, List.length_cons]; omega) (by simp only [List.length_drop, List.length_cons]; omega)]
 intro f l h
 exact key l.length f l.length l (Nat.le_refl _) h (Nat.le_refl _)
theorem pts_nil : ptsOf [] = some [] := rfl
theorem pts_bad {l : List UInt8} (h : l ≠ []) (hg : goodR l = false) : ptsOf l = none := by
 rcases l with _ | ⟨b, l⟩
 ·exact absurd rfl h
 ·rw [ptsOf, List.length_cons, ptsGo, if_neg h, if_neg (by rw [hg]; simp)]
theorem pts_good {l : List UInt8} (h : l ≠ []) (hg : goodR l = true) : ptsOf l = (ptsOf (l.drop (widR l))).map ((ptR l : Int) :: ·) := by
 rcases l with _ | ⟨b, l⟩
 ·exact absurd rfl h
 ·have hw := widR_pos (b :: l)
  rw [ptsOf, List.length_cons, ptsGo, if_neg h, if_pos hg, pts_fuel l.length _ (by simp only [List.length_drop, List.length_cons]; omega)]
theorem pts_valid : ∀ (f : Nat) (l : List UInt8), (ptsGo f l).isSome = validGoD f l := by
 intro f
 induction f with
 | zero => intro l; rfl
 | succ f ih =>
  intro l
  rw [ptsGo, validGoD]
  by_cases h : l = []
  ·rw [if_pos h, if_pos h]; rfl
  ·rw [if_neg h, if_neg h]
   obtain ⟨g1, g2⟩ := good_dec l h
   rcases hg : goodR l with _ | _
   ·have hd := g2 hg
    rw [if_neg (by simp), hd, if_pos ⟨rfl, rfl⟩]; rfl
   ·obtain ⟨d1, d2, d3⟩ := g1 hg
    rw [d1]
    have hn : ¬ ((ptR l, widR l).1 = 65533 ∧ (ptR l, widR l).2 = 1) := by
     rintro ⟨k1, k2⟩
     have := d2 k2
     simp only at k1
     omega
    rw [if_neg hn, if_pos rfl, ← ih]
    cases ptsGo f (l.drop (widR l)) <;> rfl
theorem pts_some (l : List UInt8) : (ptsOf l).isSome = validD l := pts_valid l.length l
def ctlI (p : Int) : Bool := decide (p < 32 ∨ p = 127)
def ctl8 (c : UInt8) : Bool := decide (c.toNat < 32 ∨ c.toNat = 127)
theorem pts_ctl : ∀ (f : Nat) (l : List UInt8) (ps : List Int), l.length ≤ f → ptsGo f l = some ps → ps.any ctlI = l.any ctl8 := by
 intro f
 induction f with
 | zero =>
  intro l ps h0 h
  have : l = [] := List.eq_nil_of_length_eq_zero (by omega)
  subst this
  simp [ptsGo] at h
  rw [h]; rfl
 | succ f ih =>
  intro l ps h0 h
  rw [ptsGo] at h
  by_cases hl : l = []
  ·rw [if_pos hl] at h
   injection h with h
   rw [← h, hl]; rfl
  ·rw [if_neg hl] at h
   obtain ⟨g1, g2⟩ := good_dec l hl
   rcases hg : goodR l with _ | _
   ·rw [hg] at h; simp at h
   ·rw [if_pos hg] at h
    obtain ⟨d1, d2, d3⟩ := g1 hg
    obtain ⟨qs, hq, rfl⟩ := Option.map_eq_some_iff.1 h
    have hw := widR_pos l
    have hlen := List.length_pos_iff.2 hl
    have := ih (l.drop (widR l)) qs (by rw [List.length_drop]; omega) hq
    have hs : l.any ctl8 = ((l.take (widR l)).any ctl8 || (l.drop (widR l)).any ctl8) := by rw [← List.any_append, List.take_append_drop]
    rw [hs, List.any_cons, this]
    congr 1
    by_cases h1 : widR l = 1
    ·obtain ⟨e1, e2⟩ := d2 h1
     rcases l with _ | ⟨b, l⟩
     ·exact absurd rfl hl
     ·rw [h1, List.take_succ_cons, List.take_zero, e1]
      rw [List.any_cons, List.any_nil, Bool.or_false]
      show ctlI (b.toNat : Int) = ctl8 b
      unfold ctlI ctl8
      rw [decide_eq_decide]
      omega
    ·obtain ⟨e1, e2⟩ := d3 (by omega)
     have : ctlI (ptR l : Int) = false := by unfold ctlI; rw [decide_eq_false_iff_not]; omega
     rw [this, eq_comm, List.any_eq_false]
     intro c hc
     have := e2 c hc
     simp [ctl8]
     omega
def textE (s : List UInt8) : Int := if 200 < s.length then 5 else if validD s = true then (if s.any ctl8 = true then 3 else 0) else 3
theorem textE_long {s : List UInt8} (h : 200 < s.length) : textE s = 5 := if_pos h
theorem textE_form {s : List UInt8} (h : ¬ 200 < s.length) (hv : validD s = false) : textE s = 3 := by unfold textE; rw [if_neg h, if_neg (by rw [hv]; simp)]
theorem textE_ctl {s : List UInt8} (h : ¬ 200 < s.length) (hv : s.any ctl8 = true) : textE s = 3 := by
 unfold textE; rw [if_neg h, if_pos hv]; split <;> rfl
theorem textE_ok {s : List UInt8} (h : ¬ 200 < s.length) (hv : validD s = true) (hc : s.any ctl8 = false) : textE s = 0 := by unfold textE; rw [if_neg h, if_pos hv, if_neg (by rw [hc]; simp)]
end Go.Proofs.YtcomeidcmcegfaaGreatDoor
