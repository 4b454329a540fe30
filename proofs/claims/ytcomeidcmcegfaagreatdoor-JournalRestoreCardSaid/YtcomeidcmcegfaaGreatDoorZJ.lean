/-
  The walks of the reference's decoder of UTF-8 and of its Text. Conditions: none beyond the sizes.
  The walks of the reference's Points and Text. Conditions: none beyond the sizes.
  The walks of the reference's within, Identifier, Right (of spans), note and set of layer 49. Conditions: numbers are ints.
  The walks of the reference's set, over and Check of layer 49. Conditions: numbers are ints; the list reads as pairs of ints.
-/
import Derived.Test.YtcomeidcmcegfaaGreatDoorTextWalk
import Derived.IntWalk
import Derived.Laws.DeepStrings4
import Derived.Test.YtcomeidcmcegfaaGreatDoorZF
namespace Go.Proofs.YtcomeidcmcegfaaGreatDoor
open Go.RowKit
set_option linter.unusedVariables false
theorem scalB_iff (p : Int) : scalB p = true ↔ 0 ≤ p ∧ p ≤ 1114111 ∧ (p < 55296 ∨ 57343 < p) := by unfold scalB; exact decide_eq_true_iff
set_option maxHeartbeats 1000000 in
theorem scalar_any (w : World) (p : Int) : Calls Tryz.prog 112 #[.int .i64 p] w fun e w' => e = .returned (.bool (scalB p)) ∧ w = w' := by
 go_enter Tryz.func112, Tryz.ntmps112
 go_wp2
 all_goals
  go_ret
  exact ⟨ret_bool (by rw [Bool.eq_iff_iff, scalB_iff]; simp; omega), rfl⟩
def RetStr (s : List UInt8) (w : World) (e : Ending) (w' : World) : Prop := e = .returned (.string ⟨s.toArray⟩) ∧ Below w.heap.size w w'
theorem conv_cells (w : World) (cs : Array Value) (l : List UInt8) (n : Nat) (hn : n = l.length) (h : cs = (l.map U8).toArray) :
 (convert 22 9 (.slice (some ⟨w.heap.size, 0, none⟩) n n)).run Tryz.prog (w.alloc (.cells cs 5)) = .ok (.string ⟨l.toArray⟩) (w.alloc (.cells cs 5)) := by
 subst hn h
 exact str_of _ _ _ l (Rd.new _ _ _ _)
theorem u8_lit (n : Nat) (k : Int) (h : n < 256) (hk : k = (n : Int)) : Value.int .u8 k = U8 (UInt8.ofNat n) := by unfold U8; rw [byte_nat _ h, hk]
set_option maxRecDepth 100000 in
set_option maxHeartbeats 4000000 in
theorem encoded_any (w : World) (n : Nat) (hn : n ≤ 1114111) : Calls Tryz.prog 113 #[.int .i64 n] w (RetStr (encR n) w) := by
 by_cases h1 : n < 128
 ·have H : Hid (encR n = [UInt8.ofNat n]) := if_pos h1
  have kc := fun w => conv_cells w #[.int .u8 (n : Int)] (encR n) 1 (by rw [H.out]; rfl) (by rw [H.out]; rw [u8_lit n _ (by omega) rfl]; rfl)
  clear H
  generalize encR n = L at *
  go_enter Tryz.func113, Tryz.ntmps113
  go_wp2
  go_ret
  exact ⟨rfl, (Below.refl _ _).alloc (Nat.le_refl _) _⟩
 ·by_cases h2 : n < 2048
  ·have H : Hid (encR n = [UInt8.ofNat (192 + n / 64), UInt8.ofNat (128 + n % 64)]) := by rw [Hid]; unfold encR; rw [if_neg h1, if_pos h2]
   have kc := fun w => conv_cells w #[.int .u8 (192 + (n : Int) / 64), .int .u8 (128 + (n : Int) % 64)] (encR n) 2 (by rw [H.out]; rfl) (by rw [H.out]; rw [u8_lit (192 + n / 64) _ (by omega) (by omega), u8_lit (128 + n % 64) _ (by omega) (by omega)]; rfl)
   clear H
   generalize encR n = L at *
   go_enter Tryz.func113, Tryz.ntmps113
   go_wp2
   go_ret
   exact ⟨rfl, (Below.refl _ _).alloc (Nat.le_refl _) _⟩
  ·by_cases h3 : n < 65536
   ·have H : Hid (encR n = [UInt8.ofNat (224 + n / 4096), UInt8.ofNat (128 + n / 64 % 64), UInt8.ofNat (128 + n % 64)]) := by rw [Hid]; unfold encR; rw [if_neg h1, if_neg h2, if_pos h3]
    have kc := fun w => conv_cells w #[.int .u8 (224 + (n : Int) / 4096), .int .u8 (128 + (n : Int) / 64 % 64), .int .u8 (128 + (n : Int) % 64)] (encR n) 3 (by rw [H.out]; rfl) (by rw [H.out]; rw [u8_lit (224 + n / 4096) _ (by omega) (by omega), u8_lit (128 + n / 64 % 64) _ (by omega) (by omega), u8_lit (128 + n % 64) _ (by omega) (by omega)]; rfl)
    have p1 : decide ((n : Int) < 128) = false := decide_eq_false (by omega)
    have p2 : decide ((n : Int) < 2048) = false := decide_eq_false (by omega)
    have p3 : decide ((n : Int) < 65536) = true := decide_eq_true (by omega)
    have p4 : (n : Int) ≤ 65535 := by omega
    have p5 : 0 ≤ (n : Int) := by omega
    clear H h1 h2 h3 hn
    generalize encR n = L at *
    go_enter Tryz.func113, Tryz.ntmps113
    go_wp2
    go_ret
    exact ⟨rfl, (Below.refl _ _).alloc (Nat.le_refl _) _⟩
   ·have H : Hid (encR n = [UInt8.ofNat (240 + n / 262144), UInt8.ofNat (128 + n / 4096 % 64), UInt8.ofNat (128 + n / 64 % 64), UInt8.ofNat (128 + n % 64)]) := by rw [Hid]; unfold encR; rw [if_neg h1, if_neg h2, if_neg h3]
    have kc := fun w => conv_cells w #[.int .u8 (240 + (n : Int) / 262144), .int .u8 (128 + (n : Int) / 4096 % 64), .int .u8 (128 + (n : Int) / 64 % 64), .int .u8 (128 + (n : Int) % 64)] (encR n) 4 (by rw [H.out]; rfl) (by rw [H.out]; rw [u8_lit (240 + n / 262144) _ (by omega) (by omega), u8_lit (128 + n / 4096 % 64) _ (by omega) (by omega), u8_lit (128 + n / 64 % 64) _ (by omega) (by omega), u8_lit (128 + n % 64) _ (by omega) (by omega)]; rfl)
    have p1 : decide ((n : Int) < 128) = false := decide_eq_false (by omega)
    have p2 : decide ((n : Int) < 2048) = false := decide_eq_false (by omega)
    have p3 : decide ((n : Int) < 65536) = false := decide_eq_false (by omega)
    have p4 : (n : Int) ≤ 1114111 := by omega
    have p5 : 0 ≤ (n : Int) := by omega
    clear H h1 h2 h3 hn
    generalize encR n = L at *
    go_enter Tryz.func113, Tryz.ntmps113
    go_wp2
    go_ret
    exact ⟨rfl, (Below.refl _ _).alloc (Nat.le_refl _) _⟩
def FirstRel (l : List UInt8) (wid : Nat) (vp vi : Value) : Prop :=
 ∃ k : Nat, 1 ≤ k ∧ k ≤ wid ∧ vi = .int .i64 k ∧ vp = .int .i64 (accP (leadP (hd8 l)) ((l.drop 1).take (k - 1)) : Nat)
theorem accP_next {l : List UInt8} {p k : Nat} (hk : 1 ≤ k) {c : UInt8} (h : l[k]? = some c) : accP p ((l.drop 1).take k) = accP p ((l.drop 1).take (k - 1)) * 64 + c.toNat % 64 := by
 obtain ⟨k, rfl⟩ : ∃ j, k = j + 1 := ⟨k - 1, by omega⟩
 rw [Nat.add_sub_cancel, List.take_add_one, List.getElem?_drop, Nat.add_comm 1 k, h]
 simp [accP]
theorem accP_lt (p : Nat) (l : List UInt8) (hp : p < 256) (hl : l.length ≤ 3) : accP p l < 67108864 := by
 rcases l with _ | ⟨a, _ | ⟨b, _ | ⟨c, _ | ⟨d, l⟩⟩⟩⟩
 ·simp only [accP, List.foldl_nil]; omega
 ·simp only [accP, List.foldl_cons, List.foldl_nil]; omega
 ·simp only [accP, List.foldl_cons, List.foldl_nil]; omega
 ·simp only [accP, List.foldl_cons, List.foldl_nil]; omega
 ·simp at hl
theorem drop_at {B : ByteArray} {a : Nat} (h : a < B.size) : B.data.toList.drop a ≠ [] ∧ hd8 (B.data.toList.drop a) = (B[a]'h).toNat := by
 have hl : a < B.data.toList.length := by rw [Array.length_toList]; exact h
 rw [List.drop_eq_getElem_cons hl]
 exact ⟨by simp, by simp [hd8, ByteArray.getElem_eq_getElem_data]⟩
theorem drop_get {B : ByteArray} {a k : Nat} (h : a + k < B.size) : (B.data.toList.drop a)[k]? = some (B[a + k]'h) := by
 have hl : a + k < B.data.toList.length := by rw [Array.length_toList]; exact h
 rw [List.getElem?_drop, List.getElem?_eq_getElem hl]
 simp [ByteArray.getElem_eq_getElem_data]
theorem first_eq {B : ByteArray} {a n : Nat} {l L : List UInt8} (hl : l = B.data.toList.drop a) (h : L = l.take n) : (L == (B.extract a (a + n)).toList) = true := by
 rw [beq_iff_eq, Lib.extract_toList, h, hl, Nat.add_sub_cancel_left]
theorem first_ne {B : ByteArray} {a n : Nat} {l L : List UInt8} (hl : l = B.data.toList.drop a) (h : L ≠ l.take n) : (L == (B.extract a (a + n)).toList) = false := by
 rw [beq_eq_false_iff_ne, Lib.extract_toList, Nat.add_sub_cancel_left, ← hl]; exact h
theorem str_cut (B : ByteArray) (a n : Nat) (hi : Int) (e : hi = (a : Int) + (n : Int)) (h : a + n ≤ B.size) (w : World) : (Instr.slice 9 (.string B) (some (.int .i64 (a : Int))) (some (.int .i64 hi)) none).run Tryz.prog w = .ok (.string (B.extract a (a + n))) w := by
 rw [run_slice_string_if w 9 B .i64 .i64 (a : Int) hi Tryz.underlying9, if_pos (by omega), if_pos (by omega), Int.toNat_natCast, show hi.toNat = a + n by omega]
theorem first_bad {l : List UInt8} (h : scalB (ptR l : Int) = false) : goodR l = false := by unfold goodR; rw [h, Bool.and_false, Bool.false_and]
theorem first_ext {B : ByteArray} {a n : Nat} {l : List UInt8} {p : Nat} (h9 : a + n ≤ B.size) (hw : widR l = n) (hl : l = B.data.toList.drop a) (hp : p = ptR l) (hs : scalB (p : Int) = true) :
 (encR p = l.take n → goodR l = true) ∧ (encR p ≠ l.take n → goodR l = false) := by
 subst hp
 have hlen : l.length = B.size - a := by rw [hl, List.length_drop, Array.length_toList]; rfl
 have h1 : decide (widR l ≤ l.length) = true := decide_eq_true (by omega)
 unfold goodR
 rw [hs, h1, hw]
 exact ⟨fun h => by rw [decide_eq_true h]; rfl, fun h => by rw [decide_eq_false h]; rfl⟩
def RetFirst (l : List UInt8) (w : World) (e : Ending) (w' : World) : Prop :=
 e = .returned (.tuple #[.int .i64 (if goodR l = true then (ptR l : Int) else -1), .int .i64 (if goodR l = true then (widR l : Int) else 0)]) ∧ Below w.heap.size w w'
set_option maxRecDepth 100000 in
set_option maxHeartbeats 8000000 in
theorem first_any (w : World) (B : ByteArray) (hs : B.size ≤ 1000000) (a : Nat) (ha : a < B.size) (l : List UInt8) (hl : l = B.data.toList.drop a) : Calls Tryz.prog 109 #[.string B, .int .i64 a] w (RetFirst l w) := by
 obtain ⟨hne, hh⟩ := drop_at ha
 rw [← hl] at hh
 have hb := (B[a]'ha).toNat_lt
 have hlen : l.length = B.size - a := by rw [hl, List.length_drop, Array.length_toList]; rfl
 by_cases c1 : 240 ≤ (B[a]'ha).toNat
 ·have q1 : decide (240 ≤ ((B[a]'ha).toNat : Int)) = true := decide_eq_true (by omega)
  have hw : widR l = 4 := by rw [widR, hh]; unfold leadN; rw [if_pos c1]
  have hP0 : leadP (hd8 l) = B[a].toNat - 240 := by rw [hh]; unfold leadP; rw [if_pos c1]
  by_cases c9 : a + 4 ≤ B.size
  ·have q9 : decide ((B.size : Int) < (a : Int) + 4) = false := decide_eq_false (by omega)
   have hPt : ptR l = accP (leadP (hd8 l)) ((l.drop 1).take 3) := by unfold ptR; rw [hw]
   have hPl : ∀ j, j ≤ 3 → accP (leadP (hd8 l)) ((l.drop 1).take j) < 67108864 := fun j hj => accP_lt _ _ (by omega) (by rw [List.length_take]; omega)
   have hst : FirstRel l 4 (.int .i64 (((B[a].toNat : Nat) : Int) - 240)) (.int .i64 1) := ⟨1, by omega, by omega, rfl, by rw [Nat.sub_self, List.take_zero]; show _ = Value.int .i64 ((leadP (hd8 l) : Nat) : Int); exact int_eq (by omega)⟩
   have HW := Lib.hid hw
   have HT := Lib.hid hPt
   have HL := Lib.hid hPl
   have HS := Lib.hid hst
   clear hw hPt hPl hst hP0 hh
   go_enter Tryz.func109, Tryz.ntmps109
   go_wp2
   go_loop [6, 8] (FirstRel l 4) (fun _ i => 5 - (RowKit.intOf i).toNat)
   case atStart => exact HS.out
   case round =>
    obtain ⟨k, hk1, hk2, rfl, rfl⟩ := hrel
    clear HS
    by_cases hlt : k < 4
    ·have t1 : decide ((k : Int) < 4) = true := decide_eq_true (by omega)
     have hak : a + k < B.size := by omega
     have hsn := accP_next (l := l) (p := leadP (hd8 l)) hk1 (c := B[a + k]'hak) (by rw [hl]; exact drop_get hak)
     have hb2 : ((B[a + k]'hak).toNat : Int) ≤ 255 := by have := (B[a + k]'hak).toNat_lt; omega
     have HN := Lib.hid hsn
     have hpl := HL.out (k - 1) (by omega)
     clear hsn
     generalize accP (leadP (hd8 l)) ((l.drop 1).take (k - 1)) = P at *
     go_wp2
     go_round
     case rel => exact ⟨k + 1, by omega, by omega, by go_num, by rw [Nat.add_sub_cancel, HN.out]; exact int_eq (by omega)⟩
     case measure => simp [RowKit.intOf]; omega
    ·obtain rfl : k = 4 := by omega
     have t1 : decide (((4 : Nat) : Int) < 4) = false := by decide
     have hpl := HL.out (4 - 1) (by omega)
     have hP : accP (leadP (hd8 l)) ((l.drop 1).take (4 - 1)) = ptR l := HT.out.symm
     rw [hP] at hpl ⊢
     clear hP
     have HX := Lib.hid (first_ext (a := a) (n := 4) c9 HW.out hl (p := ptR l) rfl)
     have HB := Lib.hid (first_bad (l := l))
     clear HT HL
     generalize hg : ptR l = P at *
     have HPt := Lib.hid hg
     clear hg
     rcases hs : scalB (P : Int) with _ | _
     ·have HG := Lib.hid (HB.out hs)
      have ks : ∀ w, Calls Tryz.prog 112 #[.int .i64 (P : Int)] w fun e w' => e = .returned (.bool false) ∧ w' = w := fun w => by have := scalar_any w P; rw [hs] at this; exact this.mono fun _ _ h => ⟨h.1, h.2.symm⟩
      clear HX HB hs
      go_wp2
      go_quiet ((go_at_call 112; exact Calls.quiet_of_same (ks _)))
      go_wp2
      go_ret2
      exact ⟨by rw [HG.out]; rfl, below_drewN (Below.refl _ _) _⟩
     ·have ks : ∀ w, Calls Tryz.prog 112 #[.int .i64 (P : Int)] w fun e w' => e = .returned (.bool true) ∧ w = w' := fun w => by have := scalar_any w P; rw [hs] at this; exact this
      have ke := fun w => encoded_any w P (by have := (scalB_iff _).1 hs; omega)
      have hy := HX.out hs
      clear HX HB hs
      obtain ⟨hy1, hy2⟩ := hy
      by_cases hE : encR P = l.take 4
      ·have HG := Lib.hid (hy1 hE)
       have hq : (encR P == (B.extract a (a + 4)).toList) = true := first_eq hl hE
       clear hy1 hy2 hE
       generalize encR P = L at *
       go_wp2
       have w1 : IntKind.i64.wrap ((a : Int) + 4) = (a : Int) + 4 := IntWalk.i64_in _ (by omega)
       have ksl := str_cut B a 4 ((a : Int) + 4) (by omega) c9
       have f1 : (0 : Int) ≤ (a : Int) := by omega
       have f2 : (a : Int) ≤ (a : Int) + 4 := by omega
       have f3 : (a : Int) + 4 ≤ (B.size : Int) := by omega
       have f4 : ((a : Int) + 4).toNat = a + 4 := by omega
       go_region_held3 (fun w' => True) (first | trivial | go_keep) (first | (go_at_call 112; refine (ks _).mono ?_; rintro e w' ⟨rfl, rfl⟩) | (go_at_call 113; refine (ke _).mono ?_; rintro e w' ⟨rfl, hbe⟩))
       go_wp2
       go_ret2
       exact ⟨by rw [HG.out]; first | rfl | (rw [if_pos rfl, if_pos rfl, HPt.out, HW.out]; rfl), (Below.refl w.heap.size w).drew.trans hbe⟩
      ·have HG := Lib.hid (hy2 hE)
       have hq : (encR P == (B.extract a (a + 4)).toList) = false := first_ne hl hE
       clear hy1 hy2 hE
       generalize encR P = L at *
       go_wp2
       have w1 : IntKind.i64.wrap ((a : Int) + 4) = (a : Int) + 4 := IntWalk.i64_in _ (by omega)
       have ksl := str_cut B a 4 ((a : Int) + 4) (by omega) c9
       have f1 : (0 : Int) ≤ (a : Int) := by omega
       have f2 : (a : Int) ≤ (a : Int) + 4 := by omega
       have f3 : (a : Int) + 4 ≤ (B.size : Int) := by omega
       have f4 : ((a : Int) + 4).toNat = a + 4 := by omega
       go_region_held3 (fun w' => True) (first | trivial | go_keep) (first | (go_at_call 112; refine (ks _).mono ?_; rintro e w' ⟨rfl, rfl⟩) | (go_at_call 113; refine (ke _).mono ?_; rintro e w' ⟨rfl, hbe⟩))
       go_wp2
       go_ret2
       exact ⟨by rw [HG.out]; first | rfl | (rw [if_pos rfl, if_pos rfl, HPt.out, HW.out]; rfl), (Below.refl w.heap.size w).drew.trans hbe⟩
  ·have q9 : decide ((B.size : Int) < (a : Int) + 4) = true := decide_eq_true (by omega)
   have hg : goodR l = false := by rw [← Bool.not_eq_true, goodR_iff, hw]; omega
   have HG := Lib.hid hg
   clear hg hw hh hP0
   go_enter Tryz.func109, Tryz.ntmps109
   go_wp2
   go_ret2
   exact ⟨by rw [HG.out]; rfl, Below.refl _ _⟩
 ·have q1 : decide (240 ≤ ((B[a]'ha).toNat : Int)) = false := decide_eq_false (by omega)
  by_cases c2 : 224 ≤ (B[a]'ha).toNat
  ·have q2 : decide (224 ≤ ((B[a]'ha).toNat : Int)) = true := decide_eq_true (by omega)
   have hw : widR l = 3 := by rw [widR, hh]; unfold leadN; rw [if_neg c1, if_pos c2]
   have hP0 : leadP (hd8 l) = B[a].toNat - 224 := by rw [hh]; unfold leadP; rw [if_neg c1, if_pos c2]
   by_cases c9 : a + 3 ≤ B.size
   ·have q9 : decide ((B.size : Int) < (a : Int) + 3) = false := decide_eq_false (by omega)
    have hPt : ptR l = accP (leadP (hd8 l)) ((l.drop 1).take 2) := by unfold ptR; rw [hw]
    have hPl : ∀ j, j ≤ 3 → accP (leadP (hd8 l)) ((l.drop 1).take j) < 67108864 := fun j hj => accP_lt _ _ (by omega) (by rw [List.length_take]; omega)
    have hst : FirstRel l 3 (.int .i64 (((B[a].toNat : Nat) : Int) - 224)) (.int .i64 1) := ⟨1, by omega, by omega, rfl, by rw [Nat.sub_self, List.take_zero]; show _ = Value.int .i64 ((leadP (hd8 l) : Nat) : Int); exact int_eq (by omega)⟩
    have HW := Lib.hid hw
    have HT := Lib.hid hPt
    have HL := Lib.hid hPl
    have HS := Lib.hid hst
    clear hw hPt hPl hst hP0 hh
    go_enter Tryz.func109, Tryz.ntmps109
    go_wp2
    go_loop [6, 8] (FirstRel l 3) (fun _ i => 4 - (RowKit.intOf i).toNat)
    case atStart => exact HS.out
    case round =>
     obtain ⟨k, hk1, hk2, rfl, rfl⟩ := hrel
     clear HS
     by_cases hlt : k < 3
     ·have t1 : decide ((k : Int) < 3) = true := decide_eq_true (by omega)
      have hak : a + k < B.size := by omega
      have hsn := accP_next (l := l) (p := leadP (hd8 l)) hk1 (c := B[a + k]'hak) (by rw [hl]; exact drop_get hak)
      have hb2 : ((B[a + k]'hak).toNat : Int) ≤ 255 := by have := (B[a + k]'hak).toNat_lt; omega
      have HN := Lib.hid hsn
      have hpl := HL.out (k - 1) (by omega)
      clear hsn
      generalize accP (leadP (hd8 l)) ((l.drop 1).take (k - 1)) = P at *
      go_wp2
      go_round
      case rel => exact ⟨k + 1, by omega, by omega, by go_num, by rw [Nat.add_sub_cancel, HN.out]; exact int_eq (by omega)⟩
      case measure => simp [RowKit.intOf]; omega
     ·obtain rfl : k = 3 := by omega
      have t1 : decide (((3 : Nat) : Int) < 3) = false := by decide
      have hpl := HL.out (3 - 1) (by omega)
      have hP : accP (leadP (hd8 l)) ((l.drop 1).take (3 - 1)) = ptR l := HT.out.symm
      rw [hP] at hpl ⊢
      clear hP
      have HX := Lib.hid (first_ext (a := a) (n := 3) c9 HW.out hl (p := ptR l) rfl)
      have HB := Lib.hid (first_bad (l := l))
      clear HT HL
      generalize hg : ptR l = P at *
      have HPt := Lib.hid hg
      clear hg
      rcases hs : scalB (P : Int) with _ | _
      ·have HG := Lib.hid (HB.out hs)
       have ks : ∀ w, Calls Tryz.prog 112 #[.int .i64 (P : Int)] w fun e w' => e = .returned (.bool false) ∧ w' = w := fun w => by have := scalar_any w P; rw [hs] at this; exact this.mono fun _ _ h => ⟨h.1, h.2.symm⟩
       clear HX HB hs
       go_wp2
       go_quiet ((go_at_call 112; exact Calls.quiet_of_same (ks _)))
       go_wp2
       go_ret2
       exact ⟨by rw [HG.out]; rfl, below_drewN (Below.refl _ _) _⟩
      ·have ks : ∀ w, Calls Tryz.prog 112 #[.int .i64 (P : Int)] w fun e w' => e = .returned (.bool true) ∧ w = w' := fun w => by have := scalar_any w P; rw [hs] at this; exact this
       have ke := fun w => encoded_any w P (by have := (scalB_iff _).1 hs; omega)
       have hy := HX.out hs
       clear HX HB hs
       obtain ⟨hy1, hy2⟩ := hy
       by_cases hE : encR P = l.take 3
       ·have HG := Lib.hid (hy1 hE)
        have hq : (encR P == (B.extract a (a + 3)).toList) = true := first_eq hl hE
        clear hy1 hy2 hE
        generalize encR P = L at *
        go_wp2
        have w1 : IntKind.i64.wrap ((a : Int) + 3) = (a : Int) + 3 := IntWalk.i64_in _ (by omega)
        have ksl := str_cut B a 3 ((a : Int) + 3) (by omega) c9
        have f1 : (0 : Int) ≤ (a : Int) := by omega
        have f2 : (a : Int) ≤ (a : Int) + 3 := by omega
        have f3 : (a : Int) + 3 ≤ (B.size : Int) := by omega
        have f4 : ((a : Int) + 3).toNat = a + 3 := by omega
        go_region_held3 (fun w' => True) (first | trivial | go_keep) (first | (go_at_call 112; refine (ks _).mono ?_; rintro e w' ⟨rfl, rfl⟩) | (go_at_call 113; refine (ke _).mono ?_; rintro e w' ⟨rfl, hbe⟩))
        go_wp2
        go_ret2
        exact ⟨by rw [HG.out]; first | rfl | (rw [if_pos rfl, if_pos rfl, HPt.out, HW.out]; rfl), (Below.refl w.heap.size w).drew.trans hbe⟩
       ·have HG := Lib.hid (hy2 hE)
        have hq : (encR P == (B.extract a (a + 3)).toList) = false := first_ne hl hE
        clear hy1 hy2 hE
        generalize encR P = L at *
        go_wp2
        have w1 : IntKind.i64.wrap ((a : Int) + 3) = (a : Int) + 3 := IntWalk.i64_in _ (by omega)
        have ksl := str_cut B a 3 ((a : Int) + 3) (by omega) c9
        have f1 : (0 : Int) ≤ (a : Int) := by omega
        have f2 : (a : Int) ≤ (a : Int) + 3 := by omega
        have f3 : (a : Int) + 3 ≤ (B.size : Int) := by omega
        have f4 : ((a : Int) + 3).toNat = a + 3 := by omega
        go_region_held3 (fun w' => True) (first | trivial | go_keep) (first | (go_at_call 112; refine (ks _).mono ?_; rintro e w' ⟨rfl, rfl⟩) | (go_at_call 113; refine (ke _).mono ?_; rintro e w' ⟨rfl, hbe⟩))
        go_wp2
        go_ret2
        exact ⟨by rw [HG.out]; first | rfl | (rw [if_pos rfl, if_pos rfl, HPt.out, HW.out]; rfl), (Below.refl w.heap.size w).drew.trans hbe⟩
   ·have q9 : decide ((B.size : Int) < (a : Int) + 3) = true := decide_eq_true (by omega)
    have hg : goodR l = false := by rw [← Bool.not_eq_true, goodR_iff, hw]; omega
    have HG := Lib.hid hg
    clear hg hw hh hP0
    go_enter Tryz.func109, Tryz.ntmps109
    go_wp2
    go_ret2
    exact ⟨by rw [HG.out]; rfl, Below.refl _ _⟩
  ·have q2 : decide (224 ≤ ((B[a]'ha).toNat : Int)) = false := decide_eq_false (by omega)
   by_cases c3 : 192 ≤ (B[a]'ha).toNat
   ·have q3 : decide (192 ≤ ((B[a]'ha).toNat : Int)) = true := decide_eq_true (by omega)
    have hw : widR l = 2 := by rw [widR, hh]; unfold leadN; rw [if_neg c1, if_neg c2, if_pos c3]
    have hP0 : leadP (hd8 l) = B[a].toNat - 192 := by rw [hh]; unfold leadP; rw [if_neg c1, if_neg c2, if_pos c3]
    by_cases c9 : a + 2 ≤ B.size
    ·have q9 : decide ((B.size : Int) < (a : Int) + 2) = false := decide_eq_false (by omega)
     have hPt : ptR l = accP (leadP (hd8 l)) ((l.drop 1).take 1) := by unfold ptR; rw [hw]
     have hPl : ∀ j, j ≤ 3 → accP (leadP (hd8 l)) ((l.drop 1).take j) < 67108864 := fun j hj => accP_lt _ _ (by omega) (by rw [List.length_take]; omega)
     have hst : FirstRel l 2 (.int .i64 (((B[a].toNat : Nat) : Int) - 192)) (.int .i64 1) := ⟨1, by omega, by omega, rfl, by rw [Nat.sub_self, List.take_zero]; show _ = Value.int .i64 ((leadP (hd8 l) : Nat) : Int); exact int_eq (by omega)⟩
     have HW := Lib.hid hw
     have HT := Lib.hid hPt
     have HL := Lib.hid hPl
     have HS := Lib.hid hst
     clear hw hPt hPl hst hP0 hh
     go_enter Tryz.func109, Tryz.ntmps109
     go_wp2
     go_loop [6, 8] (FirstRel l 2) (fun _ i => 3 - (RowKit.intOf i).toNat)
     case atStart => exact HS.out
     case round =>
      obtain ⟨k, hk1, hk2, rfl, rfl⟩ := hrel
      clear HS
      by_cases hlt : k < 2
      ·have t1 : decide ((k : Int) < 2) = true := decide_eq_true (by omega)
       have hak : a + k < B.size := by omega
       have hsn := accP_next (l := l) (p := leadP (hd8 l)) hk1 (c := B[a + k]'hak) (by rw [hl]; exact drop_get hak)
       have hb2 : ((B[a + k]'hak).toNat : Int) ≤ 255 := by have := (B[a + k]'hak).toNat_lt; omega
       have HN := Lib.hid hsn
       have hpl := HL.out (k - 1) (by omega)
       clear hsn
       generalize accP (leadP (hd8 l)) ((l.drop 1).take (k - 1)) = P at *
       go_wp2
       go_round
       case rel => exact ⟨k + 1, by omega, by omega, by go_num, by rw [Nat.add_sub_cancel, HN.out]; exact int_eq (by omega)⟩
       case measure => simp [RowKit.intOf]; omega
      ·obtain rfl : k = 2 := by omega
       have t1 : decide (((2 : Nat) : Int) < 2) = false := by decide
       have hpl := HL.out (2 - 1) (by omega)
       have hP : accP (leadP (hd8 l)) ((l.drop 1).take (2 - 1)) = ptR l := HT.out.symm
       rw [hP] at hpl ⊢
       clear hP
       have HX := Lib.hid (first_ext (a := a) (n := 2) c9 HW.out hl (p := ptR l) rfl)
       have HB := Lib.hid (first_bad (l := l))
       clear HT HL
       generalize hg : ptR l = P at *
       have HPt := Lib.hid hg
       clear hg
       rcases hs : scalB (P : Int) with _ | _
       ·have HG := Lib.hid (HB.out hs)
        have ks : ∀ w, Calls Tryz.prog 112 #[.int .i64 (P : Int)] w fun e w' => e = .returned (.bool false) ∧ w' = w := fun w => by have := scalar_any w P; rw [hs] at this; exact this.mono fun _ _ h => ⟨h.1, h.2.symm⟩
        clear HX HB hs
        go_wp2
        go_quiet ((go_at_call 112; exact Calls.quiet_of_same (ks _)))
        go_wp2
        go_ret2
        exact ⟨by rw [HG.out]; rfl, below_drewN (Below.refl _ _) _⟩
       ·have ks : ∀ w, Calls Tryz.prog 112 #[.int .i64 (P : Int)] w fun e w' => e = .returned (.bool true) ∧ w = w' := fun w => by have := scalar_any w P; rw [hs] at this; exact this
        have ke := fun w => encoded_any w P (by have := (scalB_iff _).1 hs; omega)
        have hy := HX.out hs
        clear HX HB hs
        obtain ⟨hy1, hy2⟩ := hy
        by_cases hE : encR P = l.take 2
        ·have HG := Lib.hid (hy1 hE)
         have hq : (encR P == (B.extract a (a + 2)).toList) = true := first_eq hl hE
         clear hy1 hy2 hE
         generalize encR P = L at *
         go_wp2
         have w1 : IntKind.i64.wrap ((a : Int) + 2) = (a : Int) + 2 := IntWalk.i64_in _ (by omega)
         have ksl := str_cut B a 2 ((a : Int) + 2) (by omega) c9
         have f1 : (0 : Int) ≤ (a : Int) := by omega
         have f2 : (a : Int) ≤ (a : Int) + 2 := by omega
         have f3 : (a : Int) + 2 ≤ (B.size : Int) := by omega
         have f4 : ((a : Int) + 2).toNat = a + 2 := by omega
         go_region_held3 (fun w' => True) (first | trivial | go_keep) (first | (go_at_call 112; refine (ks _).mono ?_; rintro e w' ⟨rfl, rfl⟩) | (go_at_call 113; refine (ke _).mono ?_; rintro e w' ⟨rfl, hbe⟩))
         go_wp2
         go_ret2
         exact ⟨by rw [HG.out]; first | rfl | (rw [if_pos rfl, if_pos rfl, HPt.out, HW.out]; rfl), (Below.refl w.heap.size w).drew.trans hbe⟩
        ·have HG := Lib.hid (hy2 hE)
         have hq : (encR P == (B.extract a (a + 2)).toList) = false := first_ne hl hE
         clear hy1 hy2 hE
         generalize encR P = L at *
         go_wp2
         have w1 : IntKind.i64.wrap ((a : Int) + 2) = (a : Int) + 2 := IntWalk.i64_in _ (by omega)
         have ksl := str_cut B a 2 ((a : Int) + 2) (by omega) c9
         have f1 : (0 : Int) ≤ (a : Int) := by omega
         have f2 : (a : Int) ≤ (a : Int) + 2 := by omega
         have f3 : (a : Int) + 2 ≤ (B.size : Int) := by omega
         have f4 : ((a : Int) + 2).toNat = a + 2 := by omega
         go_region_held3 (fun w' => True) (first | trivial | go_keep) (first | (go_at_call 112; refine (ks _).mono ?_; rintro e w' ⟨rfl, rfl⟩) | (go_at_call 113; refine (ke _).mono ?_; rintro e w' ⟨rfl, hbe⟩))
         go_wp2
         go_ret2
         exact ⟨by rw [HG.out]; first | rfl | (rw [if_pos rfl, if_pos rfl, HPt.out, HW.out]; rfl), (Below.refl w.heap.size w).drew.trans hbe⟩
    ·have q9 : decide ((B.size : Int) < (a : Int) + 2) = true := decide_eq_true (by omega)
     have hg : goodR l = false := by rw [← Bool.not_eq_true, goodR_iff, hw]; omega
     have HG := Lib.hid hg
     clear hg hw hh hP0
     go_enter Tryz.func109, Tryz.ntmps109
     go_wp2
     go_ret2
     exact ⟨by rw [HG.out]; rfl, Below.refl _ _⟩
   ·have q3 : decide (192 ≤ ((B[a]'ha).toNat : Int)) = false := decide_eq_false (by omega)
    have hw : widR l = 1 := by rw [widR, hh]; unfold leadN; rw [if_neg c1, if_neg c2, if_neg c3]
    have hP0 : leadP (hd8 l) = B[a].toNat := by rw [hh]; unfold leadP; rw [if_neg c1, if_neg c2, if_neg c3]
    by_cases c9 : a + 1 ≤ B.size
    ·have q9 : decide ((B.size : Int) < (a : Int) + 1) = false := decide_eq_false (by omega)
     have hPt : ptR l = accP (leadP (hd8 l)) ((l.drop 1).take 0) := by unfold ptR; rw [hw]
     have hPl : ∀ j, j ≤ 3 → accP (leadP (hd8 l)) ((l.drop 1).take j) < 67108864 := fun j hj => accP_lt _ _ (by omega) (by rw [List.length_take]; omega)
     have hst : FirstRel l 1 (.int .i64 (((B[a].toNat : Nat) : Int))) (.int .i64 1) := ⟨1, by omega, by omega, rfl, by rw [Nat.sub_self, List.take_zero]; show _ = Value.int .i64 ((leadP (hd8 l) : Nat) : Int); exact int_eq (by omega)⟩
     have HW := Lib.hid hw
     have HT := Lib.hid hPt
     have HL := Lib.hid hPl
     have HS := Lib.hid hst
     clear hw hPt hPl hst hP0 hh
     go_enter Tryz.func109, Tryz.ntmps109
     go_wp2
     go_loop [6, 8] (FirstRel l 1) (fun _ i => 2 - (RowKit.intOf i).toNat)
     case atStart => exact HS.out
     case round =>
      obtain ⟨k, hk1, hk2, rfl, rfl⟩ := hrel
      clear HS
      have hlt : True := trivial
      ·obtain rfl : k = 1 := by omega
       have t1 : decide (((1 : Nat) : Int) < 1) = false := by decide
       have hpl := HL.out (1 - 1) (by omega)
       have hP : accP (leadP (hd8 l)) ((l.drop 1).take (1 - 1)) = ptR l := HT.out.symm
       rw [hP] at hpl ⊢
       clear hP
       have HX := Lib.hid (first_ext (a := a) (n := 1) c9 HW.out hl (p := ptR l) rfl)
       have HB := Lib.hid (first_bad (l := l))
       clear HT HL
       generalize hg : ptR l = P at *
       have HPt := Lib.hid hg
       clear hg
       rcases hs : scalB (P : Int) with _ | _
       ·have HG := Lib.hid (HB.out hs)
        have ks : ∀ w, Calls Tryz.prog 112 #[.int .i64 (P : Int)] w fun e w' => e = .returned (.bool false) ∧ w' = w := fun w => by have := scalar_any w P; rw [hs] at this; exact this.mono fun _ _ h => ⟨h.1, h.2.symm⟩
        clear HX HB hs
        go_wp2
        go_quiet ((go_at_call 112; exact Calls.quiet_of_same (ks _)))
        go_wp2
        go_ret2
        exact ⟨by rw [HG.out]; rfl, below_drewN (Below.refl _ _) _⟩
       ·have ks : ∀ w, Calls Tryz.prog 112 #[.int .i64 (P : Int)] w fun e w' => e = .returned (.bool true) ∧ w = w' := fun w => by have := scalar_any w P; rw [hs] at this; exact this
        have ke := fun w => encoded_any w P (by have := (scalB_iff _).1 hs; omega)
        have hy := HX.out hs
        clear HX HB hs
        obtain ⟨hy1, hy2⟩ := hy
        by_cases hE : encR P = l.take 1
        ·have HG := Lib.hid (hy1 hE)
         have hq : (encR P == (B.extract a (a + 1)).toList) = true := first_eq hl hE
         clear hy1 hy2 hE
         generalize encR P = L at *
         go_wp2
         have w1 : IntKind.i64.wrap ((a : Int) + 1) = (a : Int) + 1 := IntWalk.i64_in _ (by omega)
         have ksl := str_cut B a 1 ((a : Int) + 1) (by omega) c9
         have f1 : (0 : Int) ≤ (a : Int) := by omega
         have f2 : (a : Int) ≤ (a : Int) + 1 := by omega
         have f3 : (a : Int) + 1 ≤ (B.size : Int) := by omega
         have f4 : ((a : Int) + 1).toNat = a + 1 := by omega
         go_region_held3 (fun w' => True) (first | trivial | go_keep) (first | (go_at_call 112; refine (ks _).mono ?_; rintro e w' ⟨rfl, rfl⟩) | (go_at_call 113; refine (ke _).mono ?_; rintro e w' ⟨rfl, hbe⟩))
         go_wp2
         go_ret2
         exact ⟨by rw [HG.out]; first | rfl | (rw [if_pos rfl, if_pos rfl, HPt.out, HW.out]; rfl), (Below.refl w.heap.size w).drew.trans hbe⟩
        ·have HG := Lib.hid (hy2 hE)
         have hq : (encR P == (B.extract a (a + 1)).toList) = false := first_ne hl hE
         clear hy1 hy2 hE
         generalize encR P = L at *
         go_wp2
         have w1 : IntKind.i64.wrap ((a : Int) + 1) = (a : Int) + 1 := IntWalk.i64_in _ (by omega)
         have ksl := str_cut B a 1 ((a : Int) + 1) (by omega) c9
         have f1 : (0 : Int) ≤ (a : Int) := by omega
         have f2 : (a : Int) ≤ (a : Int) + 1 := by omega
         have f3 : (a : Int) + 1 ≤ (B.size : Int) := by omega
         have f4 : ((a : Int) + 1).toNat = a + 1 := by omega
         go_region_held3 (fun w' => True) (first | trivial | go_keep) (first | (go_at_call 112; refine (ks _).mono ?_; rintro e w' ⟨rfl, rfl⟩) | (go_at_call 113; refine (ke _).mono ?_; rintro e w' ⟨rfl, hbe⟩))
         go_wp2
         go_ret2
         exact ⟨by rw [HG.out]; first | rfl | (rw [if_pos rfl, if_pos rfl, HPt.out, HW.out]; rfl), (Below.refl w.heap.size w).drew.trans hbe⟩
    ·have q9 : decide ((B.size : Int) < (a : Int) + 1) = true := decide_eq_true (by omega)
     have hg : goodR l = false := by rw [← Bool.not_eq_true, goodR_iff, hw]; omega
     have HG := Lib.hid hg
     clear hg hw hh hP0
     go_enter Tryz.func109, Tryz.ntmps109
     go_wp2
     go_ret2
     exact ⟨by rw [HG.out]; rfl, Below.refl _ _⟩
end Go.Proofs.YtcomeidcmcegfaaGreatDoor
namespace Go.Proofs.YtcomeidcmcegfaaGreatDoor
open Go.RowKit
set_option linter.unusedVariables false
theorem first_good (w : World) (B : ByteArray) (hs : B.size ≤ 1000000) (a : Nat) (ha : a < B.size) (hg : goodR (B.data.toList.drop a) = true) : Calls Tryz.prog 109 #[.string B, .int .i64 a] w
 fun e w' => e = .returned (.tuple #[.int .i64 (ptR (B.data.toList.drop a) : Int), .int .i64 (widR (B.data.toList.drop a) : Int)]) ∧ Below w.heap.size w w' := by
 have h := first_any w B hs a ha _ rfl
 unfold RetFirst at h
 rw [hg, if_pos rfl, if_pos rfl] at h
 exact h
theorem first_no (w : World) (B : ByteArray) (hs : B.size ≤ 1000000) (a : Nat) (ha : a < B.size) (hg : goodR (B.data.toList.drop a) = false) : Calls Tryz.prog 109 #[.string B, .int .i64 a] w
 fun e w' => e = .returned (.tuple #[.int .i64 (-1), .int .i64 0]) ∧ Below w.heap.size w w' := by
 have h := first_any w B hs a ha _ rfl
 unfold RetFirst at h
 rw [hg, if_neg (by simp), if_neg (by simp)] at h
 exact h
def PtsRel (w : World) (l : List UInt8) (vo va : Value) (wr : World) : Prop :=
 ∃ (pos : Nat) (A : Option Addr) (c : Nat) (acc : List Int), pos ≤ l.length ∧ acc.length ≤ pos ∧ va = .int .i64 pos ∧ vo = .slice A acc.length c ∧
  Hid (ptsOf l = (ptsOf (l.drop pos)).map (acc ++ ·)) ∧ Own wr w.heap.size 3 1 (.slice A acc.length c) acc.length (acc.map I64) ∧ Below w.heap.size w wr
theorem pts_step {l acc : List UInt8} {a : List Int} {pos : Nat} (hne : l.drop pos ≠ []) (hg : goodR (l.drop pos) = true) (h : ptsOf l = (ptsOf (l.drop pos)).map (a ++ ·)) :
 ptsOf l = (ptsOf (l.drop (pos + widR (l.drop pos)))).map ((a ++ [(ptR (l.drop pos) : Int)]) ++ ·) := by
 rw [h, pts_good hne hg, List.drop_drop]
 cases ptsOf (l.drop (pos + widR (l.drop pos))) <;> simp
def RetPtl (ps : List Int) (w : World) (e : Ending) (w' : World) : Prop := ∃ A c, e = .returned (.tuple #[.slice A ps.length c, .bool true]) ∧ Rd w' A (ps.map I64) ∧ Below w.heap.size w w'
set_option maxRecDepth 100000 in
set_option maxHeartbeats 4000000 in
theorem rpoints_yes (w : World) (B : ByteArray) (hs : B.size ≤ 1000000) (ps : List Int) (hps : ptsOf B.data.toList = some ps) : Calls Tryz.prog 105 #[.string B] w (RetPtl ps w) := by
 obtain ⟨i0, hi0, hz0, hz1, hz2⟩ := info_parts info_int
 have Hl := Lib.hid (show B.data.toList.length = B.size from Array.length_toList)
 have HP := Lib.hid hps
 clear hps
 go_enter Tryz.func105, Tryz.ntmps105
 go_wp2
 go_loopw [4, 5] (PtsRel w B.data.toList) (fun _ a _ => B.size - (intOf a).toNat)
 case atStart => exact ⟨0, none, 0, [], by omega, by simp, rfl, rfl, by rw [Hid, List.drop_zero]; cases ptsOf B.data.toList <;> simp, Own.nil _ _ _ _, Below.refl _ _⟩
 case round =>
  obtain ⟨pos, A, c, acc, h1, h2, rfl, rfl, h3, hown, hb⟩ := hrel
  rw [Hl.out] at h1
  by_cases hlt : pos < B.size
  ·have p1 : decide ((pos : Int) < (B.size : Int)) = true := decide_eq_true (by omega)
   have hne := (drop_at hlt).1
   have hg : goodR (B.data.toList.drop pos) = true := by
    rcases hg : goodR (B.data.toList.drop pos) with _ | _
    ·exfalso
     have := h3.out
     rw [HP.out, pts_bad hne hg] at this
     cases this
    ·rfl
   have hw := widR_pos (B.data.toList.drop pos)
   have hwl := ((goodR_iff _).1 hg).1
   rw [List.length_drop, Hl.out] at hwl
   have H3 := Lib.hid (pts_step (acc := []) hne hg h3.out)
   have k1 := fun w' => first_good w' B hs pos hlt hg
   clear hne hg h3
   generalize widR (B.data.toList.drop pos) = n at *
   generalize ptR (B.data.toList.drop pos) = P at *
   have p2 : ((n : Int) == 0) = false := beq_eq_false_iff_ne.2 (by omega)
   go_wp2_with fail
   refine (k1 _).mono ?_
   rintro e w1 ⟨rfl, hb1⟩
   have hown1 := hown.below (B := 0) hb1
   have hb1' := hb.trans (hb1.mono hb.size)
   clear k1 hown hb hb1
   go_wp2_with (first
    | (at_builtin
       refine wpList_append_map _ I64 I64_one rfl (.tmp 20) (.tmp 22) _ rfl w.heap.size 3 i0 _ 8 Tryz.underlying24 hi0 hz0 hz1 hz2 rfl A c acc rfl (hown1.alloc _) (some ⟨w1.heap.size, 0, none⟩) 1 [(P : Int)] rfl (Rd.new _ _ _ _) (by simp only [maxLen, List.length_cons, List.length_nil]; omega) (by simp only [List.length_cons, List.length_nil]; omega) (by simp; have := hb1'.size; omega) ?_
       intro A2 c2 l2 w2 e2 hown2 hr2 hg2 hb2 hat2)
    | fail)
   have hl2 : l2.length = acc.length + 1 := by rw [e2.out]; simp
   go_roundw
   case rel => exact ⟨pos + n, A2, c2, l2, by rw [Hl.out]; omega, by omega, by go_num, rfl, by rw [e2.out]; exact H3, hown2, (hb1'.alloc hb1'.size _).trans hb2⟩
   case measure => simp [intOf]; omega
  ·obtain rfl : pos = B.size := by omega
   have p1 : decide ((B.size : Int) < (B.size : Int)) = false := by simp
   have he : acc = ps := by
    have := h3.out
    rw [HP.out, List.drop_of_length_le (by rw [Hl.out]; omega), pts_nil] at this
    simpa using this.symm
   subst he
   go_wp2
   exact bodyPost_ret (v := .tuple #[.slice A acc.length c, .bool true]) (by simp [results, Tryz.results105, go_sem]) rfl ⟨A, c, rfl, hown.rd', hb⟩
set_option maxRecDepth 100000 in
set_option maxHeartbeats 4000000 in
theorem rpoints_no (w : World) (B : ByteArray) (hs : B.size ≤ 1000000) (hps : ptsOf B.data.toList = none) : Calls Tryz.prog 105 #[.string B] w (RetPts false w) := by
 obtain ⟨i0, hi0, hz0, hz1, hz2⟩ := info_parts info_int
 have Hl := Lib.hid (show B.data.toList.length = B.size from Array.length_toList)
 have HP := Lib.hid hps
 clear hps
 go_enter Tryz.func105, Tryz.ntmps105
 go_wp2
 go_loopw [4, 5] (PtsRel w B.data.toList) (fun _ a _ => B.size - (intOf a).toNat)
 case atStart => exact ⟨0, none, 0, [], by omega, by simp, rfl, rfl, by rw [Hid, List.drop_zero]; cases ptsOf B.data.toList <;> simp, Own.nil _ _ _ _, Below.refl _ _⟩
 case round =>
  obtain ⟨pos, A, c, acc, h1, h2, rfl, rfl, h3, hown, hb⟩ := hrel
  rw [Hl.out] at h1
  by_cases hlt : pos < B.size
  ·have p1 : decide ((pos : Int) < (B.size : Int)) = true := decide_eq_true (by omega)
   have hne := (drop_at hlt).1
   rcases hg : goodR (B.data.toList.drop pos) with _ | _
   ·have k1 := fun w' => first_no w' B hs pos hlt hg
    clear hne hg h3
    go_wp2_with fail
    refine (k1 _).mono ?_
    rintro e w1 ⟨rfl, hb1⟩
    have hb1' := hb.trans (hb1.mono hb.size)
    clear k1
    go_wp2_with fail
    exact bodyPost_ret (v := .tuple #[.slice none 0 0, .bool false]) (by simp [results, Tryz.results105, go_sem]) rfl ⟨⟨_, _, _, rfl⟩, hb1'⟩
   ·have hw := widR_pos (B.data.toList.drop pos)
    have hwl := ((goodR_iff _).1 hg).1
    rw [List.length_drop, Hl.out] at hwl
    have H3 := Lib.hid (pts_step (acc := []) hne hg h3.out)
    have k1 := fun w' => first_good w' B hs pos hlt hg
    clear hne hg h3
    generalize widR (B.data.toList.drop pos) = n at *
    generalize ptR (B.data.toList.drop pos) = P at *
    have p2 : ((n : Int) == 0) = false := beq_eq_false_iff_ne.2 (by omega)
    go_wp2_with fail
    refine (k1 _).mono ?_
    rintro e w1 ⟨rfl, hb1⟩
    have hown1 := hown.below (B := 0) hb1
    have hb1' := hb.trans (hb1.mono hb.size)
    clear k1 hown hb hb1
    go_wp2_with (first
     | (at_builtin
        refine wpList_append_map _ I64 I64_one rfl (.tmp 20) (.tmp 22) _ rfl w.heap.size 3 i0 _ 8 Tryz.underlying24 hi0 hz0 hz1 hz2 rfl A c acc rfl (hown1.alloc _) (some ⟨w1.heap.size, 0, none⟩) 1 [(P : Int)] rfl (Rd.new _ _ _ _) (by simp only [maxLen, List.length_cons, List.length_nil]; omega) (by simp only [List.length_cons, List.length_nil]; omega) (by simp; have := hb1'.size; omega) ?_
        intro A2 c2 l2 w2 e2 hown2 hr2 hg2 hb2 hat2)
     | fail)
    have hl2 : l2.length = acc.length + 1 := by rw [e2.out]; simp
    go_roundw
    case rel => exact ⟨pos + n, A2, c2, l2, by rw [Hl.out]; omega, by omega, by go_num, rfl, by rw [e2.out]; exact H3, hown2, (hb1'.alloc hb1'.size _).trans hb2⟩
    case measure => simp [intOf]; omega
  ·obtain rfl : pos = B.size := by omega
   exfalso
   have := h3.out
   rw [HP.out, List.drop_of_length_le (by rw [Hl.out]; omega), pts_nil] at this
   cases this
def RTextRel (ps : List Int) (vi : Value) : Prop := ∃ k : Nat, k ≤ ps.length ∧ vi = .int .i64 k ∧ Hid ((ps.take k).any ctlI = false)
theorem anyI_take {l : List Int} {k : Nat} (hk : k < l.length) : (l.take (k + 1)).any ctlI = ((l.take k).any ctlI || ctlI l[k]) := by
 rw [List.take_succ_eq_append_getElem hk, List.any_append, List.any_cons, List.any_nil, Bool.or_false]
theorem pts_len : ∀ (f : Nat) (l : List UInt8) (ps : List Int), ptsGo f l = some ps → ps.length ≤ f := by
 intro f
 induction f with
 | zero => intro l ps h; simp [ptsGo] at h; subst h; simp
 | succ f ih =>
  intro l ps h
  rw [ptsGo] at h
  split at h
  ·injection h with h; subst h; simp
  ·split at h
   ·obtain ⟨qs, hq, rfl⟩ := Option.map_eq_some_iff.1 h
    have := ih _ _ hq
    simp; omega
   ·cases h
set_option maxRecDepth 100000 in
set_option maxHeartbeats 4000000 in
theorem rtextB_any (w : World) (B : ByteArray) (hs : B.size ≤ maxLen) : Calls Tryz.prog 101 #[.string B] w (RetInt (textE B.data.toList) w) := by
 unfold maxLen at hs
 have hsz : B.data.toList.length = B.size := Array.length_toList
 by_cases h0 : 200 < B.size
 ·have H := Lib.hid (textE_long (s := B.data.toList) (by omega))
  have p0 : decide (200 < (B.size : Int)) = true := decide_eq_true (by omega)
  go_enter Tryz.func101, Tryz.ntmps101
  go_wp2
  go_ret
  exact ⟨by rw [H.out]; rfl, Below.refl _ _⟩
 ·have p0 : decide (200 < (B.size : Int)) = false := decide_eq_false (by omega)
  have hv := pts_some B.data.toList
  rcases hps : ptsOf B.data.toList with _ | ps
  ·rw [hps] at hv
   have H := Lib.hid (textE_form (s := B.data.toList) (by omega) hv.symm)
   have kP : ∀ w', Calls Tryz.prog 105 #[.string B] w' (RetPts false w') := fun w' => rpoints_no w' B (by omega) hps
   clear hv hps
   go_enter Tryz.func101, Tryz.ntmps101
   go_wp2_with fail
   refine (kP _).mono ?_
   rintro e w1 ⟨⟨A, n, c, rfl⟩, hb1⟩
   go_wp2_with fail
   go_ret
   exact ⟨by rw [H.out]; rfl, hb1⟩
  ·rw [hps] at hv
   have hctl := pts_ctl _ _ _ (Nat.le_refl _) hps
   have hpl := pts_len _ _ _ hps
   rw [hsz] at hpl
   have H := Lib.hid (fun hc => textE_ok (s := B.data.toList) (by omega) hv.symm (hctl.symm.trans hc))
   have H' := Lib.hid (fun hc => textE_ctl (s := B.data.toList) (by omega) (hctl.symm.trans hc))
   have kP : ∀ w', Calls Tryz.prog 105 #[.string B] w' (RetPtl ps w') := fun w' => rpoints_yes w' B (by omega) ps hps
   clear hv hps hsz hctl
   go_enter Tryz.func101, Tryz.ntmps101
   go_wp2_with fail
   refine (kP _).mono ?_
   rintro e w1 ⟨A, c, rfl, hr, hb1⟩
   go_wp2_with fail
   go_loop [5] (RTextRel ps) (fun i => ps.length - (intOf i).toNat)
   case atStart => exact ⟨0, by omega, rfl, by rw [Hid]; rfl⟩
   case round =>
    obtain ⟨k, hk, rfl, hK⟩ := hrel
    by_cases hlt : k < ps.length
    ·have p1 : decide ((k : Int) < (ps.length : Int)) = true := decide_eq_true (by omega)
     have HA := Lib.hid (anyI_take hlt)
     have HB : Hid (ctlI ps[k] = true → ps.any ctlI = true) := fun h => List.any_eq_true.2 ⟨_, List.getElem_mem hlt, h⟩
     obtain ⟨b, off, rfl, hb, hck⟩ := hr.at64 hlt
     generalize ps[k] = x at *
     by_cases c1 : x < 32
     ·have q1 : decide (x < 32) = true := decide_eq_true c1
      have hc : ctlI x = true := by unfold ctlI; simp [c1]
      clear c1
      go_wp2
      go_ret
      exact ⟨by rw [H'.out (HB.out hc)]; rfl, hb1⟩
     ·have q1 : decide (x < 32) = false := decide_eq_false c1
      by_cases c2 : x = 127
      ·have q2 : (x == 127) = true := beq_iff_eq.2 c2
       have hc : ctlI x = true := by unfold ctlI; simp [c2]
       have c2' := Lib.hid c2
       clear c2
       go_wp2
       go_ret
       exact ⟨by rw [H'.out (HB.out hc)]; rfl, hb1⟩
      ·have q2 : (x == 127) = false := beq_eq_false_iff_ne.2 c2
       have hc : Hid (ctlI x = false) := by rw [Hid]; unfold ctlI; simp [c2]; omega
       go_wp2
       go_round
       case rel => exact ⟨k + 1, by omega, by go_num, by rw [Hid, HA.out, hK.out, hc.out]; rfl⟩
       case measure => simp [intOf]; omega
    ·have p1 : decide ((k : Int) < (ps.length : Int)) = false := decide_eq_false (by omega)
     have hc : ps.any ctlI = false := by
      have := hK.out
      rwa [List.take_of_length_le (by omega)] at this
     have HH := Lib.hid (H.out hc)
     clear hc
     go_wp2
     go_ret
     exact ⟨by rw [HH.out]; rfl, hb1⟩
theorem rtext_any (w : World) (s : List UInt8) (hs : s.length ≤ maxLen) : Calls Tryz.prog 101 #[.string ⟨s.toArray⟩] w (RetInt (textE s) w) :=
 rtextB_any w ⟨s.toArray⟩ (by simpa [ByteArray.size] using hs)
end Go.Proofs.YtcomeidcmcegfaaGreatDoor
namespace Go.Proofs.YtcomeidcmcegfaaGreatDoor
open Go.RowKit
set_option linter.unusedVariables false
set_option maxHeartbeats 400000 in
theorem within_any (w : World) (n a b : Int) : Calls Tryz.prog 56 #[.int .i64 n, .int .i64 a, .int .i64 b] w fun e w' => e = .returned (.bool (decide (a ≤ n ∧ n ≤ b))) ∧ w = w' := by
 go_enter Tryz.func56, Tryz.ntmps56
 go_wp2
 all_goals
  go_ret
  exact ⟨ret_bool (by rw [Bool.eq_iff_iff]; simp; omega), rfl⟩
theorem within_is (w : World) {n a b : Int} {r : Bool} (h : decide (a ≤ n ∧ n ≤ b) = r) : Calls Tryz.prog 56 #[.int .i64 n, .int .i64 a, .int .i64 b] w fun e w' => e = .returned (.bool r) ∧ w = w' := by
 subst h; exact within_any w n a b
set_option maxHeartbeats 400000 in
theorem ident_any (w : World) (n : Int) : Calls Tryz.prog 84 #[.int .i64 n] w fun e w' => e = .returned (.bool (decide (1 ≤ n ∧ n ≤ 1099511627776))) ∧ w = w' := by
 go_enter Tryz.func84, Tryz.ntmps84
 go_wp2
 all_goals
  go_ret
  exact ⟨ret_bool (by rw [Bool.eq_iff_iff]; simp; omega), rfl⟩
set_option maxHeartbeats 400000 in
theorem rspan_any (w : World) (a b : Int) :
 Calls Tryz.prog 100 #[.agg #[.int .i64 a, .int .i64 b]] w fun e w' => e = .returned (.bool (spanB a b)) ∧ w.alloc (.cells #[.int .i64 a, .int .i64 b] 38) = w' := by
 have hi : spanB a b = true ↔ (0 ≤ a ∧ a < b ∧ b ≤ 86400000) := by unfold spanB; exact decide_eq_true_iff
 have H := Lib.hid hi
 clear hi
 go_enter Tryz.func100, Tryz.ntmps100
 go_wp2
 all_goals
  go_ret
  exact ⟨ret_bool (by rw [Bool.eq_iff_iff, H.out]; simp; omega), rfl⟩
theorem rspan_is (w : World) {a b : Int} {r : Bool} (h : spanB a b = r) :
 Calls Tryz.prog 100 #[.agg #[.int .i64 a, .int .i64 b]] w fun e w' => e = .returned (.bool r) ∧ w.alloc (.cells #[.int .i64 a, .int .i64 b] 38) = w' := by
 subst h; exact rspan_any w a b
theorem rless_is (w : World) {r : Bool} {a b c d : Int} (h : lessB a b c d = r) : Calls Tryz.prog 59 #[.agg #[.int .i64 a, .int .i64 b], .agg #[.int .i64 c, .int .i64 d]] w (RetBool r w) := by
 subst h; exact rless_any w a b c d
theorem rof_is (w : World) {r : Bool} {n : Int} (hn : I64b n) (h : ofB n = r) : Calls Tryz.prog 98 #[.int .i64 n] w (RetStamp (ofC n) (ofD n) r w) := by
 subst h; exact rof_any w n hn.1 hn.2
theorem rright_is (w : World) {r : Bool} {c d : Int} (h : rightB c d = r) : Calls Tryz.prog 83 #[.agg #[.int .i64 c, .int .i64 d]] w fun e w' => e = .returned (.bool r) ∧ w.alloc (.cells #[.int .i64 c, .int .i64 d] 36) = w' := by
 subst h; exact rright_any w c d
theorem tier3 (o : OP) : (tierB o = false ∧ decide (0 ≤ o.ti ∧ o.ti ≤ 11) = false) ∨ (tierB o = false ∧ decide (0 ≤ o.ti ∧ o.ti ≤ 11) = true ∧ decide (0 ≤ o.pa ∧ o.pa ≤ 1099511627776) = false) ∨
 (tierB o = false ∧ decide (0 ≤ o.ti ∧ o.ti ≤ 11) = true ∧ decide (0 ≤ o.pa ∧ o.pa ≤ 1099511627776) = true ∧ decide (0 ≤ o.rk ∧ o.rk ≤ 300) = false) ∨
 (tierB o = true ∧ decide (0 ≤ o.ti ∧ o.ti ≤ 11) = true ∧ decide (0 ≤ o.pa ∧ o.pa ≤ 1099511627776) = true ∧ decide (0 ≤ o.rk ∧ o.rk ≤ 300) = true) := by
 unfold tierB
 simp only [decide_eq_true_eq, decide_eq_false_iff_not]
 omega
def noteE (o : OP) : Int := if o.kd = 0 then addedE o else namedE o
set_option maxRecDepth 100000 in
set_option maxHeartbeats 8000000 in
theorem rnote_add (w : World) (o : OP) (A : Option Addr) (c : Nat) (hn : o.nt.length ≤ maxLen) (h0 : o.kd = 0) : Calls Tryz.prog 85 #[opV o A c] w (RetInt (addedE o) w) := by
 unfold opV opC
 have k0 : (o.kd != 0) = false := by simpa using h0
 clear h0
 have kI := fun w => rid_any w o.ac o.ad
 have kT := fun w => rtext_any w o.nt hn
 have hE : Hid (addedE o = if o.id = idOf o.ac o.ad then (if tierB o = true then (if timeB o = true then textE o.nt else 12) else 2) else 1) := rfl
 generalize textE o.nt = TE at *
 generalize idOf o.ac o.ad = ID at *
 by_cases hi : o.id = ID
 ·have q0 : (o.id != ID) = false := by simpa using hi
  have q1 : (o.id == ID) = true := beq_iff_eq.2 hi
  have hE := Lib.hid (hE.out.trans (if_pos hi))
  clear hi
  rcases tier3 o with ⟨ht, h1⟩ | ⟨ht, h1, h2⟩ | ⟨ht, h1, h2, h3⟩ | ⟨ht, h1, h2, h3⟩
  ·have HR : Hid (addedE o = 2) := by rw [Hid, hE.out, ht]; rfl
   have d1 := fun w => within_is w h1
   clear hE ht h1
   go_enter Tryz.func85, Tryz.ntmps85
   go_wp2_with fail
   obtain ⟨W1, hW1⟩ : ∃ x, (w.alloc (.cells (opC o A c).toArray 43)).alloc (.cells (noteC o).toArray 40) = x := ⟨_, rfl⟩
   have hb1 : Below w.heap.size w W1 := by rw [← hW1]; exact ((Below.refl _ _).alloc (Nat.le_refl _) _).alloc (by simp) _
   have ho : OpAt W1 w.heap.size o A c := by rw [← hW1]; exact (OpAt.new ..).up (Up.alloc' _ _)
   have hN : NoteAt W1 (w.heap.size + 1) o := by rw [← hW1]; exact NoteAt.new _ _ _ _ (by simp)
   have hz : w.heap.size + 1 < W1.heap.size := by rw [← hW1]; simp
   unfold opC noteC at hW1
   simp only [hW1]
   clear hW1
   have l0 := fun w' (u : Up W1 w') => (ho.up u).1.1
   have l1 := fun w' (u : Up W1 w') => (ho.up u).1.2.1
   have l2 := fun w' (u : Up W1 w') => (hN.up u).1
   go_region_held3 (fun w' => Up W1 w') (first | assumption | exact Up.drew _ | exact Up.refl _ | exact Up.trans (by assumption) (Up.alloc' _ _) | exact Up.trans (by assumption) (Up.of (by assumption))) (first | (go_at_call 99; refine (kI _).mono ?_; rintro e w2 ⟨rfl, hb2⟩))
   clear l0 l1 l2
   have hu : Up W1 w2 := by first | assumption | exact Up.trans (by assumption) (Up.of hb2)
   have m := hN.up hu
   obtain ⟨m0, m1, m2, m3, m4, m5, m6⟩ := m
   go_wp2_with fail
   refine (d1 _).mono ?_
   rintro e w' ⟨rfl, rfl⟩
   go_wp2_with fail
   go_ret
   exact ⟨by rw [HR.out]; rfl, stepB hb1 hu.b⟩
  ·have HR : Hid (addedE o = 2) := by rw [Hid, hE.out, ht]; rfl
   have d1 := fun w => within_is w h1
   have d2 := fun w => within_is w h2
   clear hE ht h1 h2
   go_enter Tryz.func85, Tryz.ntmps85
   go_wp2_with fail
   obtain ⟨W1, hW1⟩ : ∃ x, (w.alloc (.cells (opC o A c).toArray 43)).alloc (.cells (noteC o).toArray 40) = x := ⟨_, rfl⟩
   have hb1 : Below w.heap.size w W1 := by rw [← hW1]; exact ((Below.refl _ _).alloc (Nat.le_refl _) _).alloc (by simp) _
   have ho : OpAt W1 w.heap.size o A c := by rw [← hW1]; exact (OpAt.new ..).up (Up.alloc' _ _)
   have hN : NoteAt W1 (w.heap.size + 1) o := by rw [← hW1]; exact NoteAt.new _ _ _ _ (by simp)
   have hz : w.heap.size + 1 < W1.heap.size := by rw [← hW1]; simp
   unfold opC noteC at hW1
   simp only [hW1]
   clear hW1
   have l0 := fun w' (u : Up W1 w') => (ho.up u).1.1
   have l1 := fun w' (u : Up W1 w') => (ho.up u).1.2.1
   have l2 := fun w' (u : Up W1 w') => (hN.up u).1
   go_region_held3 (fun w' => Up W1 w') (first | assumption | exact Up.drew _ | exact Up.refl _ | exact Up.trans (by assumption) (Up.alloc' _ _) | exact Up.trans (by assumption) (Up.of (by assumption))) (first | (go_at_call 99; refine (kI _).mono ?_; rintro e w2 ⟨rfl, hb2⟩))
   clear l0 l1 l2
   have hu : Up W1 w2 := by first | assumption | exact Up.trans (by assumption) (Up.of hb2)
   have m := hN.up hu
   obtain ⟨m0, m1, m2, m3, m4, m5, m6⟩ := m
   go_wp2_with fail
   refine (d1 _).mono ?_
   rintro e w' ⟨rfl, rfl⟩
   go_wp2_with fail
   refine (d2 _).mono ?_
   rintro e w' ⟨rfl, rfl⟩
   go_wp2_with fail
   go_ret
   exact ⟨by rw [HR.out]; rfl, stepB hb1 hu.b⟩
  ·have HR : Hid (addedE o = 2) := by rw [Hid, hE.out, ht]; rfl
   have d1 := fun w => within_is w h1
   have d2 := fun w => within_is w h2
   have d3 := fun w => within_is w h3
   clear hE ht h1 h2 h3
   go_enter Tryz.func85, Tryz.ntmps85
   go_wp2_with fail
   obtain ⟨W1, hW1⟩ : ∃ x, (w.alloc (.cells (opC o A c).toArray 43)).alloc (.cells (noteC o).toArray 40) = x := ⟨_, rfl⟩
   have hb1 : Below w.heap.size w W1 := by rw [← hW1]; exact ((Below.refl _ _).alloc (Nat.le_refl _) _).alloc (by simp) _
   have ho : OpAt W1 w.heap.size o A c := by rw [← hW1]; exact (OpAt.new ..).up (Up.alloc' _ _)
   have hN : NoteAt W1 (w.heap.size + 1) o := by rw [← hW1]; exact NoteAt.new _ _ _ _ (by simp)
   have hz : w.heap.size + 1 < W1.heap.size := by rw [← hW1]; simp
   unfold opC noteC at hW1
   simp only [hW1]
   clear hW1
   have l0 := fun w' (u : Up W1 w') => (ho.up u).1.1
   have l1 := fun w' (u : Up W1 w') => (ho.up u).1.2.1
   have l2 := fun w' (u : Up W1 w') => (hN.up u).1
   go_region_held3 (fun w' => Up W1 w') (first | assumption | exact Up.drew _ | exact Up.refl _ | exact Up.trans (by assumption) (Up.alloc' _ _) | exact Up.trans (by assumption) (Up.of (by assumption))) (first | (go_at_call 99; refine (kI _).mono ?_; rintro e w2 ⟨rfl, hb2⟩))
   clear l0 l1 l2
   have hu : Up W1 w2 := by first | assumption | exact Up.trans (by assumption) (Up.of hb2)
   have m := hN.up hu
   obtain ⟨m0, m1, m2, m3, m4, m5, m6⟩ := m
   go_wp2_with fail
   refine (d1 _).mono ?_
   rintro e w' ⟨rfl, rfl⟩
   go_wp2_with fail
   refine (d2 _).mono ?_
   rintro e w' ⟨rfl, rfl⟩
   go_wp2_with fail
   refine (d3 _).mono ?_
   rintro e w' ⟨rfl, rfl⟩
   go_wp2_with fail
   go_ret
   exact ⟨by rw [HR.out]; rfl, stepB hb1 hu.b⟩
  ·have hE : Hid (addedE o = if timeB o = true then TE else 12) := by rw [Hid, hE.out, ht]; rfl
   have d1 := fun w => within_is w h1
   have d2 := fun w => within_is w h2
   have d3 := fun w => within_is w h3
   clear ht h1 h2 h3
   rcases hs : timeB o with _ | _
   ·have h2 := timeB_no hs
    obtain ⟨h2, h3⟩ := h2
    have HR : Hid (addedE o = 12) := by rw [Hid, hE.out, hs]; rfl
    have kS := fun w => rspan_is w h3
    have kn : ∀ w, (binOp .neq 38 (.agg #[.int .i64 o.sf, .int .i64 o.st]) (.agg #[.int .i64 0, .int .i64 0])).run Tryz.prog w = .ok (.bool true) w := fun w => by rw [span_neq, h2]; rfl
    clear hE hs h2 h3
    go_enter Tryz.func85, Tryz.ntmps85
    go_wp2_with fail
    obtain ⟨W1, hW1⟩ : ∃ x, (w.alloc (.cells (opC o A c).toArray 43)).alloc (.cells (noteC o).toArray 40) = x := ⟨_, rfl⟩
    have hb1 : Below w.heap.size w W1 := by rw [← hW1]; exact ((Below.refl _ _).alloc (Nat.le_refl _) _).alloc (by simp) _
    have ho : OpAt W1 w.heap.size o A c := by rw [← hW1]; exact (OpAt.new ..).up (Up.alloc' _ _)
    have hN : NoteAt W1 (w.heap.size + 1) o := by rw [← hW1]; exact NoteAt.new _ _ _ _ (by simp)
    have hz : w.heap.size + 1 < W1.heap.size := by rw [← hW1]; simp
    unfold opC noteC at hW1
    simp only [hW1]
    clear hW1
    have l0 := fun w' (u : Up W1 w') => (ho.up u).1.1
    have l1 := fun w' (u : Up W1 w') => (ho.up u).1.2.1
    have l2 := fun w' (u : Up W1 w') => (hN.up u).1
    go_region_held3 (fun w' => Up W1 w') (first | assumption | exact Up.drew _ | exact Up.refl _ | exact Up.trans (by assumption) (Up.alloc' _ _) | exact Up.trans (by assumption) (Up.of (by assumption))) (first | (go_at_call 99; refine (kI _).mono ?_; rintro e w2 ⟨rfl, hb2⟩))
    clear l0 l1 l2
    have hu : Up W1 w2 := by first | assumption | exact Up.trans (by assumption) (Up.of hb2)
    have m := hN.up hu
    obtain ⟨m0, m1, m2, m3, m4, m5, m6⟩ := m
    go_wp2_with fail
    refine (d1 _).mono ?_
    rintro e w' ⟨rfl, rfl⟩
    go_wp2_with fail
    refine (d2 _).mono ?_
    rintro e w' ⟨rfl, rfl⟩
    go_wp2_with fail
    refine (d3 _).mono ?_
    rintro e w' ⟨rfl, rfl⟩
    go_wp2_with fail
    refine (kS _).mono ?_
    rintro e w3 ⟨rfl, rfl⟩
    go_wp2_with fail
    go_ret
    exact ⟨by rw [HR.out]; rfl, stepB hb1 (hu.trans (Up.alloc' _ _)).b⟩
   ·have HR : Hid (addedE o = TE) := by rw [Hid, hE.out, hs]; rfl
    have h2 := timeB_yes hs
    clear hE hs
    rcases h2 with h2 | ⟨h2, h3⟩
    ·have kn : ∀ w, (binOp .neq 38 (.agg #[.int .i64 o.sf, .int .i64 o.st]) (.agg #[.int .i64 0, .int .i64 0])).run Tryz.prog w = .ok (.bool false) w := fun w => by rw [span_neq, h2]; rfl
     clear h2
     go_enter Tryz.func85, Tryz.ntmps85
     go_wp2_with fail
     obtain ⟨W1, hW1⟩ : ∃ x, (w.alloc (.cells (opC o A c).toArray 43)).alloc (.cells (noteC o).toArray 40) = x := ⟨_, rfl⟩
     have hb1 : Below w.heap.size w W1 := by rw [← hW1]; exact ((Below.refl _ _).alloc (Nat.le_refl _) _).alloc (by simp) _
     have ho : OpAt W1 w.heap.size o A c := by rw [← hW1]; exact (OpAt.new ..).up (Up.alloc' _ _)
     have hN : NoteAt W1 (w.heap.size + 1) o := by rw [← hW1]; exact NoteAt.new _ _ _ _ (by simp)
     have hz : w.heap.size + 1 < W1.heap.size := by rw [← hW1]; simp
     unfold opC noteC at hW1
     simp only [hW1]
     clear hW1
     have l0 := fun w' (u : Up W1 w') => (ho.up u).1.1
     have l1 := fun w' (u : Up W1 w') => (ho.up u).1.2.1
     have l2 := fun w' (u : Up W1 w') => (hN.up u).1
     go_region_held3 (fun w' => Up W1 w') (first | assumption | exact Up.drew _ | exact Up.refl _ | exact Up.trans (by assumption) (Up.alloc' _ _) | exact Up.trans (by assumption) (Up.of (by assumption))) (first | (go_at_call 99; refine (kI _).mono ?_; rintro e w2 ⟨rfl, hb2⟩))
     clear l0 l1 l2
     have hu : Up W1 w2 := by first | assumption | exact Up.trans (by assumption) (Up.of hb2)
     have m := hN.up hu
     obtain ⟨m0, m1, m2, m3, m4, m5, m6⟩ := m
     go_wp2_with fail
     refine (d1 _).mono ?_
     rintro e w' ⟨rfl, rfl⟩
     go_wp2_with fail
     refine (d2 _).mono ?_
     rintro e w' ⟨rfl, rfl⟩
     go_wp2_with fail
     refine (d3 _).mono ?_
     rintro e w' ⟨rfl, rfl⟩
     go_wp2_with fail
     refine (kT _).mono ?_
     rintro e w3 ⟨rfl, hb3⟩
     go_wp2_with fail
     go_ret
     exact ⟨by rw [HR.out]; rfl, stepB (stepB hb1 hu.b) hb3⟩
    ·have kS := fun w => rspan_is w h3
     have kn : ∀ w, (binOp .neq 38 (.agg #[.int .i64 o.sf, .int .i64 o.st]) (.agg #[.int .i64 0, .int .i64 0])).run Tryz.prog w = .ok (.bool true) w := fun w => by rw [span_neq, h2]; rfl
     clear h2 h3
     go_enter Tryz.func85, Tryz.ntmps85
     go_wp2_with fail
     obtain ⟨W1, hW1⟩ : ∃ x, (w.alloc (.cells (opC o A c).toArray 43)).alloc (.cells (noteC o).toArray 40) = x := ⟨_, rfl⟩
     have hb1 : Below w.heap.size w W1 := by rw [← hW1]; exact ((Below.refl _ _).alloc (Nat.le_refl _) _).alloc (by simp) _
     have ho : OpAt W1 w.heap.size o A c := by rw [← hW1]; exact (OpAt.new ..).up (Up.alloc' _ _)
     have hN : NoteAt W1 (w.heap.size + 1) o := by rw [← hW1]; exact NoteAt.new _ _ _ _ (by simp)
     have hz : w.heap.size + 1 < W1.heap.size := by rw [← hW1]; simp
     unfold opC noteC at hW1
     simp only [hW1]
     clear hW1
     have l0 := fun w' (u : Up W1 w') => (ho.up u).1.1
     have l1 := fun w' (u : Up W1 w') => (ho.up u).1.2.1
     have l2 := fun w' (u : Up W1 w') => (hN.up u).1
     go_region_held3 (fun w' => Up W1 w') (first | assumption | exact Up.drew _ | exact Up.refl _ | exact Up.trans (by assumption) (Up.alloc' _ _) | exact Up.trans (by assumption) (Up.of (by assumption))) (first | (go_at_call 99; refine (kI _).mono ?_; rintro e w2 ⟨rfl, hb2⟩))
     clear l0 l1 l2
     have hu : Up W1 w2 := by first | assumption | exact Up.trans (by assumption) (Up.of hb2)
     have m := hN.up hu
     obtain ⟨m0, m1, m2, m3, m4, m5, m6⟩ := m
     go_wp2_with fail
     refine (d1 _).mono ?_
     rintro e w' ⟨rfl, rfl⟩
     go_wp2_with fail
     refine (d2 _).mono ?_
     rintro e w' ⟨rfl, rfl⟩
     go_wp2_with fail
     refine (d3 _).mono ?_
     rintro e w' ⟨rfl, rfl⟩
     have hu3 : Up W1 (w2.alloc (.cells #[.int .i64 o.sf, .int .i64 o.st] 38)) := hu.trans (Up.alloc' _ _)
     have n := hN.up hu3
     obtain ⟨n0, n1, n2, n3, n4, n5, n6⟩ := n
     go_wp2_with fail
     refine (kS _).mono ?_
     rintro e w3 ⟨rfl, rfl⟩
     go_wp2_with fail
     refine (kT _).mono ?_
     rintro e w4 ⟨rfl, hb4⟩
     go_wp2_with fail
     go_ret
     exact ⟨by rw [HR.out]; rfl, stepB (stepB hb1 hu3.b) hb4⟩
 ·have q0 : (o.id != ID) = true := by simpa using hi
  have q1 : (o.id == ID) = false := beq_eq_false_iff_ne.2 hi
  have HR := Lib.hid (hE.out.trans (if_neg hi))
  clear hi hE
  go_enter Tryz.func85, Tryz.ntmps85
  go_wp2_with fail
  obtain ⟨W1, hW1⟩ : ∃ x, (w.alloc (.cells (opC o A c).toArray 43)).alloc (.cells (noteC o).toArray 40) = x := ⟨_, rfl⟩
  have hb1 : Below w.heap.size w W1 := by rw [← hW1]; exact ((Below.refl _ _).alloc (Nat.le_refl _) _).alloc (by simp) _
  have ho : OpAt W1 w.heap.size o A c := by rw [← hW1]; exact (OpAt.new ..).up (Up.alloc' _ _)
  have hN : NoteAt W1 (w.heap.size + 1) o := by rw [← hW1]; exact NoteAt.new _ _ _ _ (by simp)
  have hz : w.heap.size + 1 < W1.heap.size := by rw [← hW1]; simp
  unfold opC noteC at hW1
  simp only [hW1]
  clear hW1
  have l0 := fun w' (u : Up W1 w') => (ho.up u).1.1
  have l1 := fun w' (u : Up W1 w') => (ho.up u).1.2.1
  have l2 := fun w' (u : Up W1 w') => (hN.up u).1
  go_region_held3 (fun w' => Up W1 w') (first | assumption | exact Up.drew _ | exact Up.refl _ | exact Up.trans (by assumption) (Up.alloc' _ _) | exact Up.trans (by assumption) (Up.of (by assumption))) (first | (go_at_call 99; refine (kI _).mono ?_; rintro e w2 ⟨rfl, hb2⟩))
  clear l0 l1 l2
  have hu : Up W1 w2 := by first | assumption | exact Up.trans (by assumption) (Up.of hb2)
  have m := hN.up hu
  obtain ⟨m0, m1, m2, m3, m4, m5, m6⟩ := m
  go_wp2
  go_ret
  exact ⟨by rw [HR.out]; rfl, stepB hb1 hu.b⟩
set_option maxRecDepth 100000 in
set_option maxHeartbeats 8000000 in
theorem rnote_named (w : World) (o : OP) (A : Option Addr) (c : Nat) (hn : I64b o.id) (h0 : o.kd ≠ 0) : Calls Tryz.prog 85 #[opV o A c] w (RetInt (namedE o) w) := by
 unfold opV opC
 have k0 : (o.kd != 0) = true := by simpa using h0
 clear h0
 have hE : Hid (namedE o = if (ofB o.id && lessB (ofC o.id) (ofD o.id) o.ac o.ad && bareB o) = true then 0 else 1) := rfl
 have kn := note_neq o
 rcases h1 : ofB o.id with _ | _
 ·have kO := fun w => rof_is w hn h1
  have HR : Hid (namedE o = 1) := by rw [Hid, hE.out, h1]; rfl
  clear hE h1 kn
  go_enter Tryz.func85, Tryz.ntmps85
  go_wp2_with fail
  obtain ⟨W1, hW1⟩ : ∃ x, (w.alloc (.cells (opC o A c).toArray 43)).alloc (.cells (noteC o).toArray 40) = x := ⟨_, rfl⟩
  have hb1 : Below w.heap.size w W1 := by rw [← hW1]; exact ((Below.refl _ _).alloc (Nat.le_refl _) _).alloc (by simp) _
  have ho : OpAt W1 w.heap.size o A c := by rw [← hW1]; exact (OpAt.new ..).up (Up.alloc' _ _)
  have hN : NoteAt W1 (w.heap.size + 1) o := by rw [← hW1]; exact NoteAt.new _ _ _ _ (by simp)
  have hz : w.heap.size + 1 < W1.heap.size := by rw [← hW1]; simp
  unfold opC noteC at hW1
  simp only [hW1]
  clear hW1
  have m := hN
  obtain ⟨m0, m1, m2, m3, m4, m5, m6⟩ := m
  have m := ho
  obtain ⟨⟨o0, o1, o2, o3⟩, -, -⟩ := m
  go_wp2_with fail
  refine (kO _).mono ?_
  rintro e w2 ⟨rfl, hb2⟩
  have hb3 := stepB hb1 hb2
  go_wp2_with fail
  go_ret
  exact ⟨by rw [HR.out]; rfl, hb3.alloc hb3.size _⟩
 ·have kO := fun w => rof_is w hn h1
  rcases h2 : lessB (ofC o.id) (ofD o.id) o.ac o.ad with _ | _
  ·have kL := fun w => rless_is w h2
   have HR : Hid (namedE o = 1) := by rw [Hid, hE.out, h1, h2]; rfl
   clear hE h1 h2 kn
   generalize ofC o.id = X at *
   generalize ofD o.id = Y at *
   go_enter Tryz.func85, Tryz.ntmps85
   go_wp2_with fail
   obtain ⟨W1, hW1⟩ : ∃ x, (w.alloc (.cells (opC o A c).toArray 43)).alloc (.cells (noteC o).toArray 40) = x := ⟨_, rfl⟩
   have hb1 : Below w.heap.size w W1 := by rw [← hW1]; exact ((Below.refl _ _).alloc (Nat.le_refl _) _).alloc (by simp) _
   have ho : OpAt W1 w.heap.size o A c := by rw [← hW1]; exact (OpAt.new ..).up (Up.alloc' _ _)
   have hN : NoteAt W1 (w.heap.size + 1) o := by rw [← hW1]; exact NoteAt.new _ _ _ _ (by simp)
   have hz : w.heap.size + 1 < W1.heap.size := by rw [← hW1]; simp
   unfold opC noteC at hW1
   simp only [hW1]
   clear hW1
   have m := hN
   obtain ⟨m0, m1, m2, m3, m4, m5, m6⟩ := m
   have m := ho
   obtain ⟨⟨o0, o1, o2, o3⟩, -, -⟩ := m
   go_wp2_with fail
   refine (kO _).mono ?_
   rintro e w2 ⟨rfl, hb2⟩
   have hu := (Up.of hb2).trans (Up.alloc' _ (.cells #[.int .i64 X, .int .i64 Y] 36))
   have m := ho.up hu
   obtain ⟨⟨p0, p1, p2, p3⟩, -, -⟩ := m
   clear kO hb2
   go_wp2_with fail
   refine (kL _).mono ?_
   rintro e w4 ⟨rfl, hb4⟩
   go_wp2_with fail
   go_ret
   exact ⟨by rw [HR.out]; rfl, stepB (stepB hb1 hu.b) hb4⟩
  ·have kL := fun w => rless_is w h2
   have hE2 : Hid (namedE o = if bareB o = true then 0 else 1) := by rw [Hid, hE.out, h1, h2]; rfl
   clear hE h1 h2
   generalize ofC o.id = X at *
   generalize ofD o.id = Y at *
   rcases h3 : bareB o with _ | _
   all_goals
    have HR := Lib.hid hE2.out
    rw [h3] at HR kn
    clear hE2 h3
    go_enter Tryz.func85, Tryz.ntmps85
    go_wp2_with fail
    obtain ⟨W1, hW1⟩ : ∃ x, (w.alloc (.cells (opC o A c).toArray 43)).alloc (.cells (noteC o).toArray 40) = x := ⟨_, rfl⟩
    have hb1 : Below w.heap.size w W1 := by rw [← hW1]; exact ((Below.refl _ _).alloc (Nat.le_refl _) _).alloc (by simp) _
    have ho : OpAt W1 w.heap.size o A c := by rw [← hW1]; exact (OpAt.new ..).up (Up.alloc' _ _)
    have hN : NoteAt W1 (w.heap.size + 1) o := by rw [← hW1]; exact NoteAt.new _ _ _ _ (by simp)
    have hz : w.heap.size + 1 < W1.heap.size := by rw [← hW1]; simp
    unfold opC noteC at hW1
    simp only [hW1]
    clear hW1
    have m := hN
    obtain ⟨m0, m1, m2, m3, m4, m5, m6⟩ := m
    have m := ho
    obtain ⟨⟨o0, o1, o2, o3⟩, -, -⟩ := m
    go_wp2_with fail
    refine (kO _).mono ?_
    rintro e w2 ⟨rfl, hb2⟩
    have hu := (Up.of hb2).trans (Up.alloc' _ (.cells #[.int .i64 X, .int .i64 Y] 36))
    have m := ho.up hu
    obtain ⟨⟨p0, p1, p2, p3⟩, -, -⟩ := m
    clear kO hb2
    go_wp2_with fail
    refine (kL _).mono ?_
    rintro e w4 ⟨rfl, hb4⟩
    have m := hN.up (hu.trans (Up.of hb4))
    obtain ⟨n0, n1, n2, n3, n4, n5, n6⟩ := m
    go_wp2_with fail
    go_ret
    exact ⟨by rw [HR.out]; rfl, stepB (stepB hb1 hu.b) hb4⟩
end Go.Proofs.YtcomeidcmcegfaaGreatDoor
namespace Go.Proofs.YtcomeidcmcegfaaGreatDoor
open Go.RowKit
set_option linter.unusedVariables false
def rsetE (o : OP) : Int := if o.kd = 1 then setE o else plainE o
def roverE (o : OP) : Int := if o.kd = 0 then noneE o else overE o
theorem checkE_ref (o : OP) : checkE o = if rightB o.ac o.ad = true then (if decide (0 ≤ o.kd ∧ o.kd ≤ 2) = true then (if recB o = true then orE (noteE o) (orE (rsetE o) (roverE o)) else 2) else 14) else 27 := by
 unfold checkE noteE rsetE roverE
 by_cases h0 : o.kd = 0
 ·simp [h0]
 ·by_cases h1 : o.kd = 1
  ·simp [h1]
  ·by_cases h2 : o.kd = 2
   ·simp [h2]
   ·have : ¬ (0 ≤ o.kd ∧ o.kd ≤ 2) := by omega
    simp only [this, if_false, decide_false, Bool.false_eq_true]
theorem bne_of {x y : Int} {r : Bool} (h : (x == y) = r) : (x != y) = !r := by rw [← h]; rfl
set_option maxRecDepth 100000 in
set_option maxHeartbeats 4000000 in
theorem rset_plain (w : World) (o : OP) (A : Option Addr) (c : Nat) (h0 : o.kd ≠ 1) : Calls Tryz.prog 86 #[opV o A c] w (RetInt (plainE o) w) := by
 unfold opV opC
 have k0 : (o.kd != 1) = true := by simpa using h0
 clear h0
 rcases plain_cases o with ⟨eP, p1⟩ | ⟨eP, p1, p2⟩ | ⟨eP, p1, p2, p3⟩ | ⟨eP, p1, p2, p3⟩
 ·have q1 : (o.se != 0) = true := bne_of p1
  have HR := Lib.hid eP
  clear eP
  go_enter Tryz.func86, Tryz.ntmps86
  go_wp2_with fail
  go_ret
  exact ⟨by rw [HR.out]; rfl, (Below.refl _ _).alloc (Nat.le_refl _) _⟩
 ·have q1 : (o.se != 0) = false := bne_of p1
  have q2 : (o.nn != 0) = true := bne_of p2
  have HR := Lib.hid eP
  clear eP
  go_enter Tryz.func86, Tryz.ntmps86
  go_wp2_with fail
  go_ret
  exact ⟨by rw [HR.out]; rfl, (Below.refl _ _).alloc (Nat.le_refl _) _⟩
 ·have q1 : (o.se != 0) = false := bne_of p1
  have q2 : (o.nn != 0) = false := bne_of p2
  have q3 : ¬ o.tx = [] := by intro h; rw [h] at p3; cases p3
  have HR := Lib.hid eP
  clear eP
  go_enter Tryz.func86, Tryz.ntmps86
  go_wp2_with fail
  go_ret
  exact ⟨by rw [HR.out]; rfl, (Below.refl _ _).alloc (Nat.le_refl _) _⟩
 ·have q1 : (o.se != 0) = false := bne_of p1
  have q2 : (o.nn != 0) = false := bne_of p2
  have q3 : o.tx = [] := by simpa using p3
  have HR := Lib.hid eP
  clear eP
  rw [q3]
  go_enter Tryz.func86, Tryz.ntmps86
  go_wp2_with fail
  go_ret
  exact ⟨by rw [HR.out]; rfl, (Below.refl _ _).alloc (Nat.le_refl _) _⟩
set_option maxRecDepth 100000 in
set_option maxHeartbeats 4000000 in
theorem rset_set (w : World) (o : OP) (A : Option Addr) (c : Nat) (hn : o.tx.length ≤ maxLen) (h0 : o.kd = 1) : Calls Tryz.prog 86 #[opV o A c] w (RetInt (setE o) w) := by
 unfold opV opC
 have k0 : (o.kd != 1) = false := by simpa using h0
 clear h0
 have kT := fun w => rtext_any w o.tx hn
 have hb1 := Lib.hid (fun x => (Below.refl w.heap.size w).alloc (Nat.le_refl _) x)
 have hE : Hid (setE o = if o.se = 0 then (if o.nn = 0 then textE o.tx else 1) else if o.se = 1 ∨ o.se = 2 then (if 0 ≤ o.nn ∧ o.nn ≤ 86400000 then (if o.tx = [] then 0 else 1) else 2) else 14) := rfl
 generalize textE o.tx = TE at *
 by_cases hs : 0 ≤ o.se ∧ o.se ≤ 2
 ·have kS := fun w => within_is w (decide_eq_true hs)
  by_cases h0 : o.se = 0
  ·have p0 : (o.se == 0) = true := by simpa using h0
   by_cases h1 : o.nn = 0
   ·have p1 : (o.nn != 0) = false := by simpa using h1
    have HR : Hid (setE o = TE) := by rw [Hid, hE.out, if_pos h0, if_pos h1]
    clear hE h0 h1 hs
    go_enter Tryz.func86, Tryz.ntmps86
    go_wp2_with fail
    refine (kS _).mono ?_
    rintro e w' ⟨rfl, rfl⟩
    go_wp2_with fail
    refine (kT _).mono ?_
    rintro e w2 ⟨rfl, hb2⟩
    go_wp2_with fail
    go_ret
    exact ⟨by rw [HR.out]; rfl, stepB (hb1.out _) hb2⟩
   ·have p1 : (o.nn != 0) = true := by simpa using h1
    have HR : Hid (setE o = 1) := by rw [Hid, hE.out, if_pos h0, if_neg h1]
    clear hE h0 h1 hs
    go_enter Tryz.func86, Tryz.ntmps86
    go_wp2_with fail
    refine (kS _).mono ?_
    rintro e w' ⟨rfl, rfl⟩
    go_wp2_with fail
    go_ret
    exact ⟨by rw [HR.out]; rfl, hb1.out _⟩
  ·have p0 : (o.se == 0) = false := by simpa using h0
   have hE2 : Hid (setE o = if 0 ≤ o.nn ∧ o.nn ≤ 86400000 then (if o.tx = [] then 0 else 1) else 2) := by rw [Hid, hE.out, if_neg h0, if_pos (by omega)]
   clear hE h0 hs
   by_cases h2 : 0 ≤ o.nn ∧ o.nn ≤ 86400000
   ·have kN := fun w => within_is w (decide_eq_true h2)
    by_cases h3 : o.tx = []
    ·have HR : Hid (setE o = 0) := by rw [Hid, hE2.out, if_pos h2, if_pos h3]
     clear hE2 h2
     rw [h3]
     go_enter Tryz.func86, Tryz.ntmps86
     go_wp2_with fail
     refine (kS _).mono ?_
     rintro e w' ⟨rfl, rfl⟩
     go_wp2_with fail
     refine (kN _).mono ?_
     rintro e w' ⟨rfl, rfl⟩
     go_wp2_with fail
     go_ret
     exact ⟨by rw [HR.out]; rfl, hb1.out _⟩
    ·have HR : Hid (setE o = 1) := by rw [Hid, hE2.out, if_pos h2, if_neg h3]
     have q3 : o.tx.isEmpty = false := by simpa using h3
     clear hE2 h2
     go_enter Tryz.func86, Tryz.ntmps86
     go_wp2_with fail
     refine (kS _).mono ?_
     rintro e w' ⟨rfl, rfl⟩
     go_wp2_with fail
     refine (kN _).mono ?_
     rintro e w' ⟨rfl, rfl⟩
     go_wp2_with fail
     go_ret
     exact ⟨by rw [HR.out]; rfl, hb1.out _⟩
   ·have kN := fun w => within_is w (decide_eq_false h2)
    have HR : Hid (setE o = 2) := by rw [Hid, hE2.out, if_neg h2]
    clear hE2 h2
    go_enter Tryz.func86, Tryz.ntmps86
    go_wp2_with fail
    refine (kS _).mono ?_
    rintro e w' ⟨rfl, rfl⟩
    go_wp2_with fail
    refine (kN _).mono ?_
    rintro e w' ⟨rfl, rfl⟩
    go_wp2_with fail
    go_ret
    exact ⟨by rw [HR.out]; rfl, hb1.out _⟩
 ·have kS := fun w => within_is w (decide_eq_false hs)
  have HR : Hid (setE o = 14) := by rw [Hid, hE.out, if_neg (by omega), if_neg (by omega)]
  clear hE hs
  go_enter Tryz.func86, Tryz.ntmps86
  go_wp2_with fail
  refine (kS _).mono ?_
  rintro e w' ⟨rfl, rfl⟩
  go_wp2_with fail
  go_ret
  exact ⟨by rw [HR.out]; rfl, hb1.out _⟩
theorem rset_any (w : World) (o : OP) (A : Option Addr) (c : Nat) (hn : o.tx.length ≤ maxLen) : Calls Tryz.prog 86 #[opV o A c] w (RetInt (rsetE o) w) := by
 unfold rsetE
 by_cases h : o.kd = 1
 ·rw [if_pos h]; exact rset_set w o A c hn h
 ·rw [if_neg h]; exact rset_plain w o A c h
theorem rnote_any (w : World) (o : OP) (A : Option Addr) (c : Nat) (ho : o.Bd) : Calls Tryz.prog 85 #[opV o A c] w (RetInt (noteE o) w) := by
 unfold noteE
 by_cases h : o.kd = 0
 ·rw [if_pos h]; exact rnote_add w o A c ho.nt h
 ·rw [if_neg h]; exact rnote_named w o A c ho.id h
set_option maxRecDepth 100000 in
set_option maxHeartbeats 4000000 in
theorem rover_add (w : World) (o : OP) (A : Option Addr) (c : Nat) (h0 : o.kd = 0) : Calls Tryz.prog 87 #[opV o A c] w (RetInt (noneE o) w) := by
 unfold opV opC
 have k0 : (o.kd == 0) = true := by simpa using h0
 clear h0
 by_cases h : o.ov.length = 0
 ·have HR : Hid (noneE o = 0) := by rw [Hid, noneE, if_pos (List.eq_nil_of_length_eq_zero h)]
  have p0 : decide (0 < o.ov.length) = false := decide_eq_false (by omega)
  clear h
  go_enter Tryz.func87, Tryz.ntmps87
  go_wp2_with fail
  go_ret
  exact ⟨by rw [HR.out]; rfl, (Below.refl _ _).alloc (Nat.le_refl _) _⟩
 ·have HR : Hid (noneE o = 1) := by rw [Hid, noneE, if_neg (by intro e; rw [e] at h; exact h rfl)]
  have p0 : decide (0 < o.ov.length) = true := decide_eq_true (by omega)
  clear h
  go_enter Tryz.func87, Tryz.ntmps87
  go_wp2_with fail
  go_ret
  exact ⟨by rw [HR.out]; rfl, (Below.refl _ _).alloc (Nat.le_refl _) _⟩
set_option maxRecDepth 100000 in
set_option maxHeartbeats 8000000 in
theorem rover_more (w : World) (o : OP) (A : Option Addr) (c : Nat) (hr : Rd w A (ovL o.ov)) (hl : o.ov.length ≤ maxLen) (hc : o.ov.length ≤ c) (h0 : o.kd ≠ 0) : Calls Tryz.prog 87 #[opV o A c] w (RetInt (overE o) w) := by
 unfold opV opC
 unfold maxLen at hl
 have k0 : (o.kd == 0) = false := by simpa using h0
 clear h0
 have hE : Hid (overE o = if o.ov = [] then 4 else if o.ov.length ≤ 16 then ovGo o.ac o.ad 0 (0, 0) o.ov else 11) := rfl
 have hb1 := Lib.hid (fun x => (Below.refl w.heap.size w).alloc (Nat.le_refl _) x)
 by_cases h0 : o.ov.length = 0
 ·have HR : Hid (overE o = 4) := by rw [Hid, hE.out, if_pos (List.eq_nil_of_length_eq_zero h0)]
  have p0 : ((o.ov.length : Int) == 0) = true := beq_iff_eq.2 (by omega)
  clear hE h0
  go_enter Tryz.func87, Tryz.ntmps87
  go_wp2_with fail
  go_ret
  exact ⟨by rw [HR.out]; rfl, hb1.out _⟩
 ·have p0 : ((o.ov.length : Int) == 0) = false := beq_eq_false_iff_ne.2 (by omega)
  by_cases h1 : o.ov.length ≤ 16
  ·have p1 : decide (16 < (o.ov.length : Int)) = false := decide_eq_false (by omega)
   have HR : Hid (overE o = ovGo o.ac o.ad 0 (0, 0) o.ov) := by rw [Hid, hE.out, if_neg (by intro e; rw [e] at h0; exact h0 rfl), if_pos h1]
   clear hE
   go_enter Tryz.func87, Tryz.ntmps87
   go_wp2_with fail
   obtain ⟨W1, hW1⟩ : ∃ x, w.alloc (.cells (opC o A c).toArray 43) = x := ⟨_, rfl⟩
   have hb1 : Below w.heap.size w W1 := by rw [← hW1]; exact (Below.refl _ _).alloc (Nat.le_refl _) _
   have ho : OpAt W1 w.heap.size o A c := by rw [← hW1]; exact OpAt.new ..
   unfold opC at hW1
   simp only [hW1]
   clear hW1
   have hr1 := hr.below hb1
   go_loopw [22] (OverRel w W1 o) (fun i _ => o.ov.length - (intOf i).toNat)
   case atStart => exact ⟨0, by omega, rfl, rfl, Up.refl _⟩
   case round =>
    obtain ⟨k, hk, rfl, hK, hu⟩ := hrel
    by_cases hlt : k < o.ov.length
    ·have t1 : decide ((k : Int) < (o.ov.length : Int)) = true := decide_eq_true (by omega)
     have t2 : (k : Int) < (o.ov.length : Int) := by omega
     have t3 : 0 ≤ (k : Int) := by omega
     obtain ⟨b, off, rfl, hc0, hc1⟩ := ov_cells (hu.rd hr1) hlt
     have hD := ovGo_drop (a := o.ac) (b := o.ad) (p := prevAt o.ov k) hlt
     have HD := Lib.hid hD
     have HPn := Lib.hid (prevAt_next hlt)
     clear hD
     obtain ⟨⟨x, y⟩, hxy⟩ : ∃ s, o.ov[k] = s := ⟨_, rfl⟩
     rw [hxy] at hc0 hc1 HD HPn
     clear hxy
     dsimp only at hc0 hc1 HD
     have hoW := ho.up hu
     have hru := hu.rd hr1
     have l0 := fun w' (u : Up wr w') => u.cell hc0
     have l1 := fun w' (u : Up wr w') => u.cell hc1
     have l2 := fun w' (u : Up wr w') => (hoW.up u).2.2.2.2.2
     have l3 := fun w' (u : Up wr w') => (hoW.up u).1.1
     have l4 := fun w' (u : Up wr w') => (hoW.up u).1.2.1
     clear hc0 hc1
     rcases r1 : rightB x y with _ | _
     ·have HV : Hid (overE o = 27) := by rw [Hid, HR.out, hK.out, HD.out, r1]; rfl
      have kRb : ∀ w, Calls Tryz.prog 83 #[.agg #[.int .i64 x, .int .i64 y]] w (RetBool false w) := fun w => (rright_is w r1).mono fun _ _ h => ⟨h.1, by rw [← h.2]; exact (Below.refl _ _).alloc (Nat.le_refl _) _⟩
      clear HD r1
      go_wp2_with fail
      refine wp_region_noPanic ?_
      refine wp_region_held_drew (S := fun w' => Up wr w') (by kernel_rfl) (Up.drew wr) (fun hHeld => ?_)
      refine tk 0 25 (v := ?_) ?_ ?_
      rotate_left
      ·intro w' hSw; clear hSw; go_simp; try (with_reducible rfl)
      try simp only [tkA, tkB, tkC]
      refine tk 1 26 (v := ?_) ?_ ?_
      rotate_left
      ·intro w' hS0; go_simp; try (with_reducible rfl)
      try simp only [tkA, tkB, tkC]
      refine tk 2 27 (v := ?_) ?_ ?_
      rotate_left
      ·intro w' hSw; clear hSw; go_simp; try (with_reducible rfl)
      try simp only [tkA, tkB, tkC]
      refine tk 3 28 (v := ?_) ?_ ?_
      rotate_left
      ·intro w' hSw; clear hSw; go_simp; try (with_reducible rfl)
      try simp only [tkA, tkB, tkC]
      refine tk 4 29 (v := ?_) ?_ ?_
      rotate_left
      ·intro w' hS0; go_simp; try (with_reducible rfl)
      try simp only [tkA, tkB, tkC]
      refine wpAnyH_ready (rs := [5]) (by kernel_rfl) (by simp) ?_
      refine AllReadyH.cons rfl (fun K hK => ?_) AllReadyH.nil
      go_simp
      refine (kRb _).mono ?_
      rintro e W2 ⟨rfl, hb2⟩
      have u2 : Up wr W2 := Up.trans (by assumption) (Up.of hb2)
      clear hb2
      refine hK.out _ _ u2 (fun hHeld => ?_)
      clear hK K hHeld
      refine wpAnyH_more (S' := fun w' => Up W2 w') (fun w' h => Up.trans u2 h) _ _ _ _ ?_
      have hHeld := Up.refl W2
      refine tk 6 31 (v := ?_) ?_ ?_
      rotate_left
      ·intro w' hSw; clear hSw; go_simp; try (with_reducible rfl)
      try simp only [tkA, tkB, tkC]
      refine tk 7 32 (v := ?_) ?_ ?_
      rotate_left
      ·intro w' hSw; clear hSw; go_simp; try (with_reducible rfl)
      try simp only [tkA, tkB, tkC]
      refine held_skip 8 rfl (by kernel_rfl) (by kernel_rfl) (by kernel_rfl) (fun _ _ _ h => h) (by rfl) (by assumption) ?_
      change wpAnyH _ _ _ _ _ _ _ (Act.put _ (some 33) _) _
      try simp only [Act.put, tkA, tkB, tkC]
      refine held_skip 9 rfl (by kernel_rfl) (by kernel_rfl) (by kernel_rfl) (fun _ _ _ h => h) (by rfl) (by assumption) ?_
      change wpAnyH _ _ _ _ _ _ _ (Act.put _ (some 34) _) _
      try simp only [Act.put, tkA, tkB, tkC]
      refine held_skip 10 rfl (by kernel_rfl) (by kernel_rfl) (by kernel_rfl) (fun _ _ _ h => h) (by rfl) (by assumption) ?_
      change wpAnyH _ _ _ _ _ _ _ (Act.put _ (some 35) _) _
      try simp only [Act.put, tkA, tkB, tkC]
      refine held_skip 11 rfl (by kernel_rfl) (by kernel_rfl) (by kernel_rfl) (fun _ _ _ h => h) (by rfl) (by assumption) ?_
      change wpAnyH _ _ _ _ _ _ _ (Act.put _ (some 36) _) _
      try simp only [Act.put, tkA, tkB, tkC]
      refine held_skip 12 rfl (by kernel_rfl) (by kernel_rfl) (by kernel_rfl) (fun _ _ _ h => h) (by rfl) (by assumption) ?_
      change wpAnyH _ _ _ _ _ _ _ (Act.put _ (some 37) _) _
      try simp only [Act.put, tkA, tkB, tkC]
      refine held_skip 13 rfl (by kernel_rfl) (by kernel_rfl) (by kernel_rfl) (fun _ _ _ h => h) (by rfl) (by assumption) ?_
      change wpAnyH _ _ _ _ _ _ _ (Act.put _ (some 38) _) _
      try simp only [Act.put, tkA, tkB, tkC]
      refine held_skip 14 rfl (by kernel_rfl) (by kernel_rfl) (by kernel_rfl) (fun _ _ _ h => h) (by rfl) (by assumption) ?_
      change wpAnyH _ _ _ _ _ _ _ (Act.put _ (some 39) _) _
      try simp only [Act.put, tkA, tkB, tkC]
      refine held_skip 15 rfl (by kernel_rfl) (by kernel_rfl) (by kernel_rfl) (fun _ _ _ h => h) (by rfl) (by assumption) ?_
      change wpAnyH _ _ _ _ _ _ _ (Act.put _ (some 40) _) _
      try simp only [Act.put, tkA, tkB, tkC]
      refine held_skip 16 rfl (by kernel_rfl) (by kernel_rfl) (by kernel_rfl) (fun _ _ _ h => h) (by rfl) (by assumption) ?_
      change wpAnyH _ _ _ _ _ _ _ (Act.put _ (some 41) _) _
      try simp only [Act.put, tkA, tkB, tkC]
      refine tk 17 42 (v := ?_) ?_ ?_
      rotate_left
      ·intro w' hSw; clear hSw; go_simp; try (with_reducible rfl)
      try simp only [tkA, tkB, tkC]
      refine wpAnyH_done (by kernel_rfl) ?_ _
      refine NoPanic.normal ?_
      clear hHeld
      go_wp2_with fail
      go_ret
      exact ⟨by rw [HV.out]; rfl, stepB hb1 (hu.trans u2).b⟩
     ·have kR := fun w => rright_is w r1
      rcases r2 : lessB x y o.ac o.ad with _ | _
      ·have HV : Hid (overE o = 27) := by rw [Hid, HR.out, hK.out, HD.out, r1, r2]; rfl
       have kL := fun w => rless_is w r2
       clear HD r1 r2
       go_wp2_with fail
       go_region_held3 (fun w' => Up wr w') (first | assumption | exact Up.drew _ | exact Up.refl _ | exact Up.trans (by assumption) (Up.alloc' _ _) | exact Up.trans (by assumption) (Up.of (by assumption))) (first | (go_at_call 83; refine (kR _).mono ?_; rintro e w3 ⟨rfl, rfl⟩) | (go_at_call 59; refine (kL _).mono ?_; rintro e w4 ⟨rfl, hb4⟩))
       have hv : Up wr w4 := by first | assumption | exact Up.trans (by assumption) (Up.of hb4)
       go_wp2_with fail
       go_ret
       exact ⟨by rw [HV.out]; rfl, stepB hb1 (hu.trans hv).b⟩
      ·have kL := fun w => rless_is w r2
       have HD2 : Hid (ovGo o.ac o.ad k (prevAt o.ov k) (o.ov.drop k) = if (decide (k = 0) || lessB (prevAt o.ov k).1 (prevAt o.ov k).2 x y) = true then ovGo o.ac o.ad (k + 1) (x, y) (o.ov.drop (k + 1)) else 10) := by rw [Hid, HD.out, r1, r2]; rfl
       clear HD r1 r2
       go_wp2_with fail
       go_region_held3 (fun w' => Up wr w') (first | assumption | exact Up.drew _ | exact Up.refl _ | exact Up.trans (by assumption) (Up.alloc' _ _) | exact Up.trans (by assumption) (Up.of (by assumption))) (first | (go_at_call 83; refine (kR _).mono ?_; rintro e w3 ⟨rfl, rfl⟩) | (go_at_call 59; refine (kL _).mono ?_; rintro e w4 ⟨rfl, hb4⟩))
       have hv : Up wr w4 := by first | assumption | exact Up.trans (by assumption) (Up.of hb4)
       have huc := hu.trans hv
       by_cases k0 : k = 0
       ·subst k0
        have g0 : decide ((0 : Int) < ((0 : Nat) : Int)) = false := by decide
        have HN : Hid (ovGo o.ac o.ad 0 (0, 0) o.ov = ovGo o.ac o.ad 1 (prevAt o.ov 1) (o.ov.drop 1)) := by rw [Hid, hK.out, HD2.out, HPn.out]; rfl
        go_wp2_with fail
        go_quiet (fail)
        go_wp2_with fail
        go_roundw
        case rel => exact ⟨1, by omega, rfl, HN, huc.trans (Up.of (below_drewN (Below.refl _ _) _))⟩
        case measure => simp [intOf]; omega
       ·obtain ⟨j, rfl⟩ : ∃ j, k = j + 1 := ⟨k - 1, by omega⟩
        have g0 : decide ((0 : Int) < ((j + 1 : Nat) : Int)) = true := decide_eq_true (by omega)
        obtain ⟨b', off', e', hp0, hp1⟩ := ov_cells hru (k := j) (by omega)
        cases e'
        have HPj := Lib.hid (prevAt_next (l := o.ov) (k := j) (by omega))
        generalize o.ov[j] = q at *
        obtain ⟨px, py⟩ := q
        have HD3 : Hid (ovGo o.ac o.ad (j + 1) (prevAt o.ov (j + 1)) (o.ov.drop (j + 1)) = if lessB px py x y = true then ovGo o.ac o.ad (j + 1 + 1) (x, y) (o.ov.drop (j + 1 + 1)) else 10) := by
         rw [Hid, HD2.out, HPj.out]; rfl
        clear HD2 HPj
        have s3 := hv.cell hp0
        have s4 := hv.cell hp1
        have g1 := fun w' (u : Up w4 w') => l0 w' (hv.trans u)
        have g2 := fun w' (u : Up w4 w') => l1 w' (hv.trans u)
        have g3 := fun w' (u : Up w4 w') => l2 w' (hv.trans u)
        have g4 := fun w' (u : Up w4 w') => u.cell s3
        have g5 := fun w' (u : Up w4 w') => u.cell s4
        have b1 : IntKind.i64.wrap (((j + 1 : Nat) : Int) - 1) = (j : Int) := by rw [IntWalk.i64_in _ (by omega)]; omega
        have b5 : IntKind.i64.wrap ((j : Int) + 1 - 1) = (j : Int) := by rw [IntWalk.i64_in _ (by omega)]; omega
        have b6 : IntKind.i64.wrap (j : Int) = (j : Int) := IntWalk.i64_in _ (by omega)
        have b2 : (j : Int) < (o.ov.length : Int) := by omega
        have b7 : (j : Int) + 1 < (o.ov.length : Int) := by omega
        have b8 : 0 ≤ (j : Int) + 1 := by omega
        have b9 : j + 1 < o.ov.length := by omega
        have b10 : ((j : Int) + 1).toNat = j + 1 := by omega
        have b3 : 0 ≤ (j : Int) := by omega
        have b4 : j < o.ov.length := by omega
        clear l0 l1 l2 l3 l4 s3 s4 hp0 hp1 kL kR
        rcases r3 : lessB px py x y with _ | _
        ·have HV : Hid (overE o = 10) := by rw [Hid, HR.out, hK.out, HD3.out, r3]; rfl
         have kM := fun w => rless_is w r3
         clear r3
         go_wp2_with fail
         go_region_held3 (fun w' => Up w4 w') (first | assumption | exact Up.drew _ | exact Up.refl _ | exact Up.trans (by assumption) (Up.alloc' _ _) | exact Up.trans (by assumption) (Up.of (by assumption))) (first | (go_at_call 59; refine (kM _).mono ?_; rintro e w5 ⟨rfl, hb5⟩))
         have hx : Up w4 w5 := by first | assumption | exact Up.trans (by assumption) (Up.of hb5)
         clear g1 g2 g3 g4 g5
         go_wp2
         go_ret
         exact ⟨by rw [HV.out]; rfl, stepB hb1 (huc.trans hx).b⟩
        ·have HN : Hid (ovGo o.ac o.ad 0 (0, 0) o.ov = ovGo o.ac o.ad (j + 1 + 1) (prevAt o.ov (j + 1 + 1)) (o.ov.drop (j + 1 + 1))) := by rw [Hid, hK.out, HD3.out, r3, HPn.out]; rfl
         have kM := fun w => rless_is w r3
         clear r3
         go_wp2_with fail
         go_region_held3 (fun w' => Up w4 w') (first | assumption | exact Up.drew _ | exact Up.refl _ | exact Up.trans (by assumption) (Up.alloc' _ _) | exact Up.trans (by assumption) (Up.of (by assumption))) (first | (go_at_call 59; refine (kM _).mono ?_; rintro e w5 ⟨rfl, hb5⟩))
         have hx : Up w4 w5 := by first | assumption | exact Up.trans (by assumption) (Up.of hb5)
         clear g1 g2 g3 g4 g5
         go_wp2
         go_roundw
         case rel => exact ⟨j + 1 + 1, by omega, by go_num, HN, huc.trans hx⟩
         case measure => simp [intOf]; omega
    ·obtain rfl : k = o.ov.length := by omega
     have t1 : decide ((o.ov.length : Int) < (o.ov.length : Int)) = false := by simp
     have HV : Hid (overE o = 0) := by rw [Hid, HR.out, hK.out, List.drop_length]; rfl
     go_wp2_with fail
     go_ret
     exact ⟨by rw [HV.out]; rfl, stepB hb1 hu.b⟩
  ·have HR : Hid (overE o = 11) := by rw [Hid, hE.out, if_neg (by intro e; rw [e] at h0; exact h0 rfl), if_neg h1]
   have p1 : decide (16 < (o.ov.length : Int)) = true := decide_eq_true (by omega)
   clear hE h0 h1
   go_enter Tryz.func87, Tryz.ntmps87
   go_wp2_with fail
   go_ret
   exact ⟨by rw [HR.out]; rfl, hb1.out _⟩
theorem rover_any (w : World) (o : OP) (A : Option Addr) (c : Nat) (ho : o.Bd) (hr : Rd w A (ovL o.ov)) (hc : o.ov.length ≤ c) : Calls Tryz.prog 87 #[opV o A c] w (RetInt (roverE o) w) := by
 unfold roverE
 by_cases h : o.kd = 0
 ·rw [if_pos h]; exact rover_add w o A c h
 ·rw [if_neg h]; exact rover_more w o A c hr ho.ol hc h
set_option maxRecDepth 100000 in
set_option maxHeartbeats 4000000 in
theorem rcheck_any (w : World) (o : OP) (A : Option Addr) (c : Nat) (ho : o.Bd) (hr : Rd w A (ovL o.ov)) (hc : o.ov.length ≤ c) : Calls Tryz.prog 58 #[opV o A c] w (RetInt (checkE o) w) := by
 have kN := fun w => rnote_any w o A c ho
 have kS := fun w => rset_any w o A c ho.tx
 have kO := fun w' (hb : Below w.heap.size w w') => rover_any w' o A c ho (hr.below hb) hc
 unfold opV opC at kN kS kO ⊢
 have hE := Lib.hid (checkE_ref o)
 rcases h0 : rightB o.ac o.ad with _ | _
 ·have HR : Hid (checkE o = 27) := by rw [Hid, hE.out, h0]; rfl
  have kR := fun w => rright_is w h0
  clear h0 hE
  go_enter Tryz.func58, Tryz.ntmps58
  go_wp2_with fail
  refine (kR _).mono ?_
  rintro e w' ⟨rfl, rfl⟩
  go_wp2_with fail
  go_ret
  exact ⟨by rw [HR.out]; rfl, ((Below.refl _ _).alloc (Nat.le_refl _) _).alloc (by simp) _⟩
 ·have kR := fun w => rright_is w h0
  rcases h1 : decide (0 ≤ o.kd ∧ o.kd ≤ 2) with _ | _
  ·have HR : Hid (checkE o = 14) := by rw [Hid, hE.out, h0, h1]; rfl
   have kK := fun w => within_is w h1
   clear h0 h1 hE
   go_enter Tryz.func58, Tryz.ntmps58
   go_wp2_with fail
   refine (kR _).mono ?_
   rintro e w' ⟨rfl, rfl⟩
   go_wp2_with fail
   refine (kK _).mono ?_
   rintro e w' ⟨rfl, rfl⟩
   go_wp2_with fail
   go_ret
   exact ⟨by rw [HR.out]; rfl, ((Below.refl _ _).alloc (Nat.le_refl _) _).alloc (by simp) _⟩
  ·have kK := fun w => within_is w h1
   have hE2 : Hid (checkE o = if recB o = true then orE (noteE o) (orE (rsetE o) (roverE o)) else 2) := by rw [Hid, hE.out, h0, h1]; rfl
   have kI : ∀ w, Calls Tryz.prog 84 #[.int .i64 o.rc] w fun e w' => e = .returned (.bool (recB o)) ∧ w = w' := fun w => ident_any w o.rc
   clear h0 h1 hE
   generalize noteE o = NE at *
   generalize rsetE o = SE at *
   generalize roverE o = OE at *
   rcases h2 : recB o with _ | _
   ·have HR : Hid (checkE o = 2) := by rw [Hid, hE2.out, h2]; rfl
    rw [h2] at kI
    clear h2 hE2
    go_enter Tryz.func58, Tryz.ntmps58
    go_wp2_with fail
    refine (kR _).mono ?_
    rintro e w' ⟨rfl, rfl⟩
    go_wp2_with fail
    refine (kK _).mono ?_
    rintro e w' ⟨rfl, rfl⟩
    go_wp2_with fail
    refine (kI _).mono ?_
    rintro e w' ⟨rfl, rfl⟩
    go_wp2_with fail
    go_ret
    exact ⟨by rw [HR.out]; rfl, ((Below.refl _ _).alloc (Nat.le_refl _) _).alloc (by simp) _⟩
   ·have HR : Hid (checkE o = orE NE (orE SE OE)) := by rw [Hid, hE2.out, h2]; rfl
    rw [h2] at kI
    clear h2 hE2
    obtain ⟨W1, hW1⟩ : ∃ x, (w.alloc (.cells (opC o A c).toArray 43)).alloc (.cells #[.int .i64 o.ac, .int .i64 o.ad] 36) = x := ⟨_, rfl⟩
    have hb1 : Below w.heap.size w W1 := by rw [← hW1]; exact ((Below.refl _ _).alloc (Nat.le_refl _) _).alloc (by simp) _
    have hoa : OpAt W1 w.heap.size o A c := by rw [← hW1]; exact (OpAt.new ..).up (Up.alloc' _ _)
    unfold opC at hW1
    have HW1 := Lib.hid hW1
    clear hW1
    go_enter Tryz.func58, Tryz.ntmps58
    go_wp2_with fail
    refine (kR _).mono ?_
    rintro e w' ⟨rfl, rfl⟩
    go_wp2_with fail
    refine (kK _).mono ?_
    rintro e w' ⟨rfl, rfl⟩
    go_wp2_with fail
    refine (kI _).mono ?_
    rintro e w' ⟨rfl, rfl⟩
    simp only [HW1.out]
    clear HW1
    have m := hoa
    obtain ⟨⟨m0, m1, m2, m3⟩, ⟨m4, m5, m6, m7, m8, m9, m10⟩, ⟨m11, m12, m13, m14⟩⟩ := m
    go_wp2_with fail
    refine (kN _).mono ?_
    rintro e w2 ⟨rfl, hb2⟩
    have hb2' := stepB hb1 hb2
    have hob := hoa.up (Up.of hb2)
    clear m0 m1 m2 m3 m4 m5 m6 m7 m8 m9 m10 m11 m12 m13 m14
    have m := hob
    obtain ⟨⟨m0, m1, m2, m3⟩, ⟨m4, m5, m6, m7, m8, m9, m10⟩, ⟨m11, m12, m13, m14⟩⟩ := m
    by_cases n0 : NE = 0
    ·have q0 : (NE != 0) = false := by simpa using n0
     have HR : Hid (checkE o = orE SE OE) := by rw [Hid, HR.out, orE, if_pos n0]
     clear n0
     go_wp2_with fail
     refine (kS _).mono ?_
     rintro e w3 ⟨rfl, hb3⟩
     have hb3' := stepB hb2' hb3
     have hoc := hob.up (Up.of hb3)
     clear m0 m1 m2 m3 m4 m5 m6 m7 m8 m9 m10 m11 m12 m13 m14
     have m := hoc
     obtain ⟨⟨m0, m1, m2, m3⟩, ⟨m4, m5, m6, m7, m8, m9, m10⟩, ⟨m11, m12, m13, m14⟩⟩ := m
     by_cases s0 : SE = 0
     ·have q1 : (SE != 0) = false := by simpa using s0
      have HR : Hid (checkE o = OE) := by rw [Hid, HR.out, orE, if_pos s0]
      clear s0
      go_wp2_with fail
      refine (kO _ hb3').mono ?_
      rintro e w4 ⟨rfl, hb4⟩
      go_wp2_with fail
      go_ret
      exact ⟨by rw [HR.out]; rfl, stepB hb3' hb4⟩
     ·have q1 : (SE != 0) = true := by simpa using s0
      have HR : Hid (checkE o = SE) := by rw [Hid, HR.out, orE, if_neg s0]
      clear s0
      go_wp2_with fail
      go_ret
      exact ⟨by rw [HR.out]; rfl, hb3'⟩
    ·have q0 : (NE != 0) = true := by simpa using n0
     have HR : Hid (checkE o = NE) := by rw [Hid, HR.out, orE, if_neg n0]
     clear n0
     go_wp2_with fail
     go_ret
     exact ⟨by rw [HR.out]; rfl, hb2'⟩
end Go.Proofs.YtcomeidcmcegfaaGreatDoor
