/-
  The walks of PutText and PutInts. Conditions: lengths below the model's bound.
-/
import Derived.Test.YtfjiikcbcoohdaaDoorWirePut
import Derived.Test.YtfjiikcbcoohdaaDoorConv
namespace Go.Proofs.YtfjiikcbcoohdaaDoor
open Go.RowKit
set_option linter.unusedVariables false

set_option maxHeartbeats 1000000 in
theorem put1_any (w : World) (base : Nat) (hbase : base ≤ w.heap.size) (A : Option Addr) (c : Nat) (l : List UInt8) (h : Own w base 5 1 (.slice A l.length c) l.length (l.map U8)) (hl : l.length ≤ 140737488355000) (x : UInt8) :
    Calls Tryd.prog 65 #[.slice A l.length c, .int .u8 x.toNat] w (RetGr U8 5 base (.slice A l.length c) (l ++ [x]) w) := by
  obtain ⟨i0, hi0, hz0, hz1, hz2⟩ := info_parts info_u8
  go_enter Tryd.func65, Tryd.ntmps65
  go_wp2_with (first
    | (at_builtin
       refine wpList_append_map _ U8 U8_one rfl (.tmp 5) (.tmp 7) _ rfl base 5 i0 _ 1 Tryd.underlying35 hi0 hz0 hz1 hz2 rfl A c l rfl (h.alloc _) (some ⟨w.heap.size, 0, none⟩) 1 [x] rfl (Rd.new _ _ _ _) (by simp only [maxLen, List.length_cons, List.length_nil]; omega) (by simp only [List.length_cons, List.length_nil]; omega) (by simp; omega) ?_
       intro A2 c2 l2 w2 e2 hown2 hr2 hg2 hb2 hat2
       obtain rfl : l ++ [x] = l2 := e2.out.symm
       generalize l ++ [x] = L at *)
    | fail)
  go_ret
  exact ⟨A2, c2, rfl, hown2, ((Gr.refl _ _ _).alloc hbase _).trans ⟨hg2, hat2, hb2⟩⟩

def PutRel {α : Type} (f : α → Value) (en : α → List UInt8) (w : World) (base : Nat) (v0 : Value) (l0 : List UInt8) (l : List α) (B : Option Addr) (v i : Value) (wr : World) : Prop :=
  ∃ (j : Nat) (A1 : Option Addr) (c1 : Nat) (l1 : List UInt8), j ≤ l.length ∧ i = .int .i64 j ∧ v = .slice A1 l1.length c1 ∧ l1 = l0 ++ (l.take j).flatMap en ∧
    Own wr base 5 1 (.slice A1 l1.length c1) l1.length (l1.map U8) ∧ Gr base v0 w (.slice A1 l1.length c1) wr ∧ Rd wr B (l.map f) ∧ Apart B (l.map f) (.slice A1 l1.length c1)

theorem flat_len {α : Type} (en : α → List UInt8) (N : Nat) (h : ∀ x, (en x).length ≤ N) (l : List α) : (l.flatMap en).length ≤ l.length * N := by
  induction l with
  | nil => simp
  | cons a l ih => have := h a; simp only [List.flatMap_cons, List.length_append, List.length_cons]; rw [Nat.add_mul]; omega
theorem flat_take {α : Type} (en : α → List UInt8) (l : List α) (j : Nat) (h : j < l.length) : (l.take (j + 1)).flatMap en = (l.take j).flatMap en ++ en l[j] := by
  rw [List.take_succ_eq_append_getElem h, List.flatMap_append]; simp
theorem flat_one (s : List UInt8) : s.flatMap (fun x => [x]) = s := by
  induction s with
  | nil => rfl
  | cons a s ih => simp only [List.flatMap_cons, ih]; rfl

/-- the bytes of a text and of a list -/
def encT (s : List UInt8) : List UInt8 := enc s.length ++ s
def encL (l : List Int) : List UInt8 := enc l.length ++ l.flatMap enc
theorem encT_length (s : List UInt8) : (encT s).length ≤ s.length + 10 := by
  have := enc_length (s.length : Int); unfold encT; simp; omega
theorem encL_length (l : List Int) : (encL l).length ≤ l.length * 10 + 10 := by
  have := enc_length (l.length : Int); have := flat_len enc 10 (fun n => (enc_length n).2) l; unfold encL; simp only [List.length_append]; omega

set_option maxRecDepth 20000 in
set_option maxHeartbeats 1000000 in
theorem put8_any (w : World) (base : Nat) (hbase : base ≤ w.heap.size) (A : Option Addr) (c : Nat) (l : List UInt8) (h : Own w base 5 1 (.slice A l.length c) l.length (l.map U8)) (hl : l.length ≤ 100000000)
    (B : Option Addr) (d : Nat) (s : List UInt8) (hs : s.length ≤ 100000000) (hr : Rd w B (s.map U8)) (hap : Apart B (s.map U8) (.slice A l.length c)) :
    Calls Tryd.prog 64 #[.slice A l.length c, .slice B s.length d, .func (.func 65) #[] #[]] w (RetGr U8 5 base (.slice A l.length c) (l ++ encT s) w) := by
  have hen := enc_length (s.length : Int)
  go_enter Tryd.func64, Tryd.ntmps64
  go_wp2_with fail
  refine (varint_any _ base hbase _ _ _ h (by omega) _ (by omega) (by omega)).mono ?_
  rintro e w1 ⟨A1, c1, rfl, hown1, hg1⟩
  have hL : (l ++ enc s.length).length ≤ 100000010 := by simp; omega
  have HE : Hid (l ++ encT s = (l ++ enc s.length) ++ s) := by unfold encT; exact (List.append_assoc _ _ _).symm
  generalize l ++ enc s.length = L at *
  generalize l ++ encT s = LT at *
  go_wp2_with fail
  go_loopw [0, 15] (PutRel U8 (fun x => [x]) w base (.slice A l.length c) L s B) (fun _ i _ => s.length - (intOf i).toNat)
  case atStart => exact ⟨0, A1, c1, L, by omega, rfl, rfl, by simp, hown1, hg1, hg1.rd hr hap, hg1.apart hr hap⟩
  case round =>
    clear hown1 hg1
    obtain ⟨j, A1, c1, l1, hj, rfl, rfl, e1, hown1, hg1, hr1, hap1⟩ := hrel
    have E1 := Lib.hid e1
    have hl1 : l1.length ≤ 200000010 := by
      have := flat_len (fun x : UInt8 => [x]) 1 (fun _ => by simp) (s.take j)
      rw [e1, List.length_append]; simp only [List.length_take] at this; omega
    clear e1
    have hbw : base ≤ wr.heap.size := Nat.le_trans hbase hg1.bel.size
    by_cases hlt : j < s.length
    · obtain ⟨b, off, rfl, hb, hck⟩ := hr1.at8 hlt
      have HF := Lib.hid (flat_take (fun x : UInt8 => [x]) s j hlt)
      generalize s[j] = x at *
      go_wp2_with fail
      refine (put1_any _ base hbw _ _ _ hown1 (by omega) x).mono ?_
      rintro e w2 ⟨A2, c2, rfl, hown2, hg2⟩
      have E2 : Hid (l1 ++ [x] = L ++ (s.take (j + 1)).flatMap (fun x => [x])) := by rw [Hid, HF.out, E1.out, List.append_assoc]
      generalize l1 ++ [x] = l2 at *
      go_wp2_with fail
      go_roundw
      case rel => exact ⟨j + 1, A2, c2, l2, by omega, by go_num, rfl, E2.out, hown2, hg1.trans hg2, hg2.rd hr1 hap1, hg2.apart hr1 hap1⟩
      case measure => simp [intOf]; omega
    · obtain rfl : l1 = LT := by rw [E1.out, HE.out, List.take_of_length_le (by omega), flat_one]
      go_wp2
      go_ret
      exact ⟨A1, c1, rfl, hown1, hg1⟩

set_option maxHeartbeats 1000000 in
theorem putText_any (w : World) (A : Option Addr) (c : Nat) (l : List UInt8) (h : Rd w A (l.map U8)) (hl : l.length ≤ 100000000) (s : List UInt8) (hs : s.length ≤ 100000000) :
    Calls Tryd.prog 40 #[.slice A l.length c, .string ⟨s.toArray⟩] w (RetNew U8 5 (l ++ encT s) w) := by
  go_enter Tryd.func40, Tryd.ntmps40
  go_wp2_with fail
  refine (clone8_any _ _ _ _ h (by omega)).mono ?_
  rintro e w1 ⟨A1, c1, rfl, hown1, hb1⟩
  obtain ⟨c2, w2, hcv, hr2, hb2, hg2⟩ := conv_str w1 s
  go_wp2_with fail
  clear hcv
  refine (put8_any _ w.heap.size (Nat.le_trans hb1.size hb2.size) _ _ _ (hown1.below (B := 0) hb2) hl _ _ _ hs hr2 ?_).mono ?_
  · intro _ b off e hk
    injection e with e
    injection e with e1 e2
    subst e1
    have := (hown1.lt _ hk).2
    omega
  rintro e w3 ⟨A3, c3, rfl, hown3, hg3⟩
  generalize l ++ encT s = L at *
  go_wp2_with fail
  go_ret
  exact ⟨A3, c3, rfl, hown3, (hb1.trans (hb2.mono hb1.size)).trans hg3.bel⟩

end Go.Proofs.YtfjiikcbcoohdaaDoor
