/-
  The walks of the reference's decoder of UTF-8 and of its Text. Conditions: none beyond the sizes.
-/
import Derived.Test.YtfjiikcbcoohdaaDoorTextWalk
import Derived.IntWalk
import Derived.Laws.DeepStrings4
namespace Go.Proofs.YtfjiikcbcoohdaaDoor
open Go.RowKit
set_option linter.unusedVariables false

theorem scalB_iff (p : Int) : scalB p = true ↔ 0 ≤ p ∧ p ≤ 1114111 ∧ (p < 55296 ∨ 57343 < p) := by unfold scalB; exact decide_eq_true_iff
set_option maxHeartbeats 1000000 in
theorem scalar_any (w : World) (p : Int) : Calls Tryd.prog 82 #[.int .i64 p] w fun e w' => e = .returned (.bool (scalB p)) ∧ w = w' := by
  go_enter Tryd.func82, Tryd.ntmps82
  go_wp2
  all_goals
    go_ret
    exact ⟨ret_bool (by rw [Bool.eq_iff_iff, scalB_iff]; simp; omega), rfl⟩

/-- the call returns the string s -/
def RetStr (s : List UInt8) (w : World) (e : Ending) (w' : World) : Prop := e = .returned (.string ⟨s.toArray⟩) ∧ Below w.heap.size w w'
theorem conv_cells (w : World) (cs : Array Value) (l : List UInt8) (n : Nat) (hn : n = l.length) (h : cs = (l.map U8).toArray) :
    (convert 35 9 (.slice (some ⟨w.heap.size, 0, none⟩) n n)).run Tryd.prog (w.alloc (.cells cs 5)) = .ok (.string ⟨l.toArray⟩) (w.alloc (.cells cs 5)) := by
  subst hn h
  exact str_of _ _ _ l (Rd.new _ _ _ _)
theorem u8_lit (n : Nat) (k : Int) (h : n < 256) (hk : k = (n : Int)) : Value.int .u8 k = U8 (UInt8.ofNat n) := by unfold U8; rw [byte_nat _ h, hk]

set_option maxRecDepth 100000 in
set_option maxHeartbeats 4000000 in
theorem encoded_any (w : World) (n : Nat) (hn : n ≤ 1114111) : Calls Tryd.prog 83 #[.int .i64 n] w (RetStr (encR n) w) := by
  by_cases h1 : n < 128
  · have H : Hid (encR n = [UInt8.ofNat n]) := if_pos h1
    have kc := fun w => conv_cells w #[.int .u8 (n : Int)] (encR n) 1 (by rw [H.out]; rfl) (by rw [H.out]; rw [u8_lit n _ (by omega) rfl]; rfl)
    clear H
    generalize encR n = L at *
    go_enter Tryd.func83, Tryd.ntmps83
    go_wp2
    go_ret
    exact ⟨rfl, (Below.refl _ _).alloc (Nat.le_refl _) _⟩
  · by_cases h2 : n < 2048
    · have H : Hid (encR n = [UInt8.ofNat (192 + n / 64), UInt8.ofNat (128 + n % 64)]) := by rw [Hid]; unfold encR; rw [if_neg h1, if_pos h2]
      have kc := fun w => conv_cells w #[.int .u8 (192 + (n : Int) / 64), .int .u8 (128 + (n : Int) % 64)] (encR n) 2 (by rw [H.out]; rfl) (by rw [H.out]; rw [u8_lit (192 + n / 64) _ (by omega) (by omega), u8_lit (128 + n % 64) _ (by omega) (by omega)]; rfl)
      clear H
      generalize encR n = L at *
      go_enter Tryd.func83, Tryd.ntmps83
      go_wp2
      go_ret
      exact ⟨rfl, (Below.refl _ _).alloc (Nat.le_refl _) _⟩
    · by_cases h3 : n < 65536
      · have H : Hid (encR n = [UInt8.ofNat (224 + n / 4096), UInt8.ofNat (128 + n / 64 % 64), UInt8.ofNat (128 + n % 64)]) := by rw [Hid]; unfold encR; rw [if_neg h1, if_neg h2, if_pos h3]
        have kc := fun w => conv_cells w #[.int .u8 (224 + (n : Int) / 4096), .int .u8 (128 + (n : Int) / 64 % 64), .int .u8 (128 + (n : Int) % 64)] (encR n) 3 (by rw [H.out]; rfl) (by rw [H.out]; rw [u8_lit (224 + n / 4096) _ (by omega) (by omega), u8_lit (128 + n / 64 % 64) _ (by omega) (by omega), u8_lit (128 + n % 64) _ (by omega) (by omega)]; rfl)
        have p1 : decide ((n : Int) < 128) = false := decide_eq_false (by omega)
        have p2 : decide ((n : Int) < 2048) = false := decide_eq_false (by omega)
        have p3 : decide ((n : Int) < 65536) = true := decide_eq_true (by omega)
        have p4 : (n : Int) ≤ 65535 := by omega
        have p5 : 0 ≤ (n : Int) := by omega
        clear H h1 h2 h3 hn
        generalize encR n = L at *
        go_enter Tryd.func83, Tryd.ntmps83
        go_wp2
        go_ret
        exact ⟨rfl, (Below.refl _ _).alloc (Nat.le_refl _) _⟩
      · have H : Hid (encR n = [UInt8.ofNat (240 + n / 262144), UInt8.ofNat (128 + n / 4096 % 64), UInt8.ofNat (128 + n / 64 % 64), UInt8.ofNat (128 + n % 64)]) := by rw [Hid]; unfold encR; rw [if_neg h1, if_neg h2, if_neg h3]
        have kc := fun w => conv_cells w #[.int .u8 (240 + (n : Int) / 262144), .int .u8 (128 + (n : Int) / 4096 % 64), .int .u8 (128 + (n : Int) / 64 % 64), .int .u8 (128 + (n : Int) % 64)] (encR n) 4 (by rw [H.out]; rfl) (by rw [H.out]; rw [u8_lit (240 + n / 262144) _ (by omega) (by omega), u8_lit (128 + n / 4096 % 64) _ (by omega) (by omega), u8_lit (128 + n / 64 % 64) _ (by omega) (by omega), u8_lit (128 + n % 64) _ (by omega) (by omega)]; rfl)
        have p1 : decide ((n : Int) < 128) = false := decide_eq_false (by omega)
        have p2 : decide ((n : Int) < 2048) = false := decide_eq_false (by omega)
        have p3 : decide ((n : Int) < 65536) = false := decide_eq_false (by omega)
        have p4 : (n : Int) ≤ 1114111 := by omega
        have p5 : 0 ≤ (n : Int) := by omega
        clear H h1 h2 h3 hn
        generalize encR n = L at *
        go_enter Tryd.func83, Tryd.ntmps83
        go_wp2
        go_ret
        exact ⟨rfl, (Below.refl _ _).alloc (Nat.le_refl _) _⟩

/-- the state of the loop of 'first': p after the bytes from place at + 1 to at + k - 1 -/
def FirstRel (l : List UInt8) (wid : Nat) (vp vi : Value) : Prop :=
  ∃ k : Nat, 1 ≤ k ∧ k ≤ wid ∧ vi = .int .i64 k ∧ vp = .int .i64 (accP (leadP (hd8 l)) ((l.drop 1).take (k - 1)) : Nat)
theorem accP_next {l : List UInt8} {p k : Nat} (hk : 1 ≤ k) {c : UInt8} (h : l[k]? = some c) : accP p ((l.drop 1).take k) = accP p ((l.drop 1).take (k - 1)) * 64 + c.toNat % 64 := by
  obtain ⟨k, rfl⟩ : ∃ j, k = j + 1 := ⟨k - 1, by omega⟩
  rw [Nat.add_sub_cancel, List.take_add_one, List.getElem?_drop, Nat.add_comm 1 k, h]
  simp [accP]
theorem accP_lt (p : Nat) (l : List UInt8) (hp : p < 256) (hl : l.length ≤ 3) : accP p l < 67108864 := by
  rcases l with _ | ⟨a, _ | ⟨b, _ | ⟨c, _ | ⟨d, l⟩⟩⟩⟩
  · simp only [accP, List.foldl_nil]; omega
  · simp only [accP, List.foldl_cons, List.foldl_nil]; omega
  · simp only [accP, List.foldl_cons, List.foldl_nil]; omega
  · simp only [accP, List.foldl_cons, List.foldl_nil]; omega
  · simp at hl
theorem drop_at {B : ByteArray} {a : Nat} (h : a < B.size) : B.data.toList.drop a ≠ [] ∧ hd8 (B.data.toList.drop a) = (B[a]'h).toNat := by
  have hl : a < B.data.toList.length := by rw [Array.length_toList]; exact h
  rw [List.drop_eq_getElem_cons hl]
  exact ⟨by simp, by simp [hd8, ByteArray.getElem_eq_getElem_data]⟩
theorem drop_get {B : ByteArray} {a k : Nat} (h : a + k < B.size) : (B.data.toList.drop a)[k]? = some (B[a + k]'h) := by
  have hl : a + k < B.data.toList.length := by rw [Array.length_toList]; exact h
  rw [List.getElem?_drop, List.getElem?_eq_getElem hl]
  simp [ByteArray.getElem_eq_getElem_data]
theorem first_eq {B : ByteArray} {a n : Nat} {l L : List UInt8} (hl : l = B.data.toList.drop a) (h : L = l.take n) : (L == (B.extract a (a + n)).toList) = true := by
  rw [beq_iff_eq, Lib.extract_toList, h, hl, Nat.add_sub_cancel_left]
theorem first_ne {B : ByteArray} {a n : Nat} {l L : List UInt8} (hl : l = B.data.toList.drop a) (h : L ≠ l.take n) : (L == (B.extract a (a + n)).toList) = false := by
  rw [beq_eq_false_iff_ne, Lib.extract_toList, Nat.add_sub_cancel_left, ← hl]; exact h
theorem str_cut (B : ByteArray) (a n : Nat) (hi : Int) (e : hi = (a : Int) + (n : Int)) (h : a + n ≤ B.size) (w : World) : (Instr.slice 9 (.string B) (some (.int .i64 (a : Int))) (some (.int .i64 hi)) none).run Tryd.prog w = .ok (.string (B.extract a (a + n))) w := by
  rw [run_slice_string_if w 9 B .i64 .i64 (a : Int) hi Tryd.underlying9, if_pos (by omega), if_pos (by omega), Int.toNat_natCast, show hi.toNat = a + n by omega]
theorem first_bad {l : List UInt8} (h : scalB (ptR l : Int) = false) : goodR l = false := by unfold goodR; rw [h, Bool.and_false, Bool.false_and]
theorem first_ext {B : ByteArray} {a n : Nat} {l : List UInt8} {p : Nat} (h9 : a + n ≤ B.size) (hw : widR l = n) (hl : l = B.data.toList.drop a) (hp : p = ptR l) (hs : scalB (p : Int) = true) :
    (encR p = l.take n → goodR l = true) ∧ (encR p ≠ l.take n → goodR l = false) := by
  subst hp
  have hlen : l.length = B.size - a := by rw [hl, List.length_drop, Array.length_toList]; rfl
  have h1 : decide (widR l ≤ l.length) = true := decide_eq_true (by omega)
  unfold goodR
  rw [hs, h1, hw]
  exact ⟨fun h => by rw [decide_eq_true h]; rfl, fun h => by rw [decide_eq_false h]; rfl⟩
def RetFirst (l : List UInt8) (w : World) (e : Ending) (w' : World) : Prop :=
  e = .returned (.tuple #[.int .i64 (if goodR l = true then (ptR l : Int) else -1), .int .i64 (if goodR l = true then (widR l : Int) else 0)]) ∧ Below w.heap.size w w'
set_option maxRecDepth 100000 in
set_option maxHeartbeats 8000000 in
theorem first_any (w : World) (B : ByteArray) (hs : B.size ≤ 1000000) (a : Nat) (ha : a < B.size) (l : List UInt8) (hl : l = B.data.toList.drop a) : Calls Tryd.prog 79 #[.string B, .int .i64 a] w (RetFirst l w) := by
  obtain ⟨hne, hh⟩ := drop_at ha
  rw [← hl] at hh
  have hb := (B[a]'ha).toNat_lt
  have hlen : l.length = B.size - a := by rw [hl, List.length_drop, Array.length_toList]; rfl
  by_cases c1 : 240 ≤ (B[a]'ha).toNat
  · have q1 : decide (240 ≤ ((B[a]'ha).toNat : Int)) = true := decide_eq_true (by omega)
    have hw : widR l = 4 := by rw [widR, hh]; unfold leadN; rw [if_pos c1]
    have hP0 : leadP (hd8 l) = B[a].toNat - 240 := by rw [hh]; unfold leadP; rw [if_pos c1]
    by_cases c9 : a + 4 ≤ B.size
    · have q9 : decide ((B.size : Int) < (a : Int) + 4) = false := decide_eq_false (by omega)
      have hPt : ptR l = accP (leadP (hd8 l)) ((l.drop 1).take 3) := by unfold ptR; rw [hw]
      have hPl : ∀ j, j ≤ 3 → accP (leadP (hd8 l)) ((l.drop 1).take j) < 67108864 := fun j hj => accP_lt _ _ (by omega) (by rw [List.length_take]; omega)
      have hst : FirstRel l 4 (.int .i64 (((B[a].toNat : Nat) : Int) - 240)) (.int .i64 1) := ⟨1, by omega, by omega, rfl, by rw [Nat.sub_self, List.take_zero]; show _ = Value.int .i64 ((leadP (hd8 l) : Nat) : Int); exact int_eq (by omega)⟩
      have HW := Lib.hid hw
      have HT := Lib.hid hPt
      have HL := Lib.hid hPl
      have HS := Lib.hid hst
      clear hw hPt hPl hst hP0 hh
      go_enter Tryd.func79, Tryd.ntmps79
      go_wp2
      go_loop [6, 8] (FirstRel l 4) (fun _ i => 5 - (RowKit.intOf i).toNat)
      case atStart => exact HS.out
      case round =>
        obtain ⟨k, hk1, hk2, rfl, rfl⟩ := hrel
        clear HS
        by_cases hlt : k < 4
        · have t1 : decide ((k : Int) < 4) = true := decide_eq_true (by omega)
          have hak : a + k < B.size := by omega
          have hsn := accP_next (l := l) (p := leadP (hd8 l)) hk1 (c := B[a + k]'hak) (by rw [hl]; exact drop_get hak)
          have hb2 : ((B[a + k]'hak).toNat : Int) ≤ 255 := by have := (B[a + k]'hak).toNat_lt; omega
          have HN := Lib.hid hsn
          have hpl := HL.out (k - 1) (by omega)
          clear hsn
          generalize accP (leadP (hd8 l)) ((l.drop 1).take (k - 1)) = P at *
          go_wp2
          go_round
          case rel => exact ⟨k + 1, by omega, by omega, by go_num, by rw [Nat.add_sub_cancel, HN.out]; exact int_eq (by omega)⟩
          case measure => simp [RowKit.intOf]; omega
        · obtain rfl : k = 4 := by omega
          have t1 : decide (((4 : Nat) : Int) < 4) = false := by decide
          have hpl := HL.out (4 - 1) (by omega)
          have hP : accP (leadP (hd8 l)) ((l.drop 1).take (4 - 1)) = ptR l := HT.out.symm
          rw [hP] at hpl ⊢
          clear hP
          have HX := Lib.hid (first_ext (a := a) (n := 4) c9 HW.out hl (p := ptR l) rfl)
          have HB := Lib.hid (first_bad (l := l))
          clear HT HL
          generalize hg : ptR l = P at *
          have HPt := Lib.hid hg
          clear hg
          rcases hs : scalB (P : Int) with _ | _
          · have HG := Lib.hid (HB.out hs)
            have ks : ∀ w, Calls Tryd.prog 82 #[.int .i64 (P : Int)] w fun e w' => e = .returned (.bool false) ∧ w' = w := fun w => by have := scalar_any w P; rw [hs] at this; exact this.mono fun _ _ h => ⟨h.1, h.2.symm⟩
            clear HX HB hs
            go_wp2
            go_quiet ((go_at_call 82; exact Calls.quiet_of_same (ks _)))
            go_wp2
            go_ret2
            exact ⟨by rw [HG.out]; rfl, below_drewN (Below.refl _ _) _⟩
          · have ks : ∀ w, Calls Tryd.prog 82 #[.int .i64 (P : Int)] w fun e w' => e = .returned (.bool true) ∧ w = w' := fun w => by have := scalar_any w P; rw [hs] at this; exact this
            have ke := fun w => encoded_any w P (by have := (scalB_iff _).1 hs; omega)
            have hy := HX.out hs
            clear HX HB hs
            obtain ⟨hy1, hy2⟩ := hy
            by_cases hE : encR P = l.take 4
            · have HG := Lib.hid (hy1 hE)
              have hq : (encR P == (B.extract a (a + 4)).toList) = true := first_eq hl hE
              clear hy1 hy2 hE
              generalize encR P = L at *
              go_wp2
              have w1 : IntKind.i64.wrap ((a : Int) + 4) = (a : Int) + 4 := IntWalk.i64_in _ (by omega)
              have ksl := str_cut B a 4 ((a : Int) + 4) (by omega) c9
              have f1 : (0 : Int) ≤ (a : Int) := by omega
              have f2 : (a : Int) ≤ (a : Int) + 4 := by omega
              have f3 : (a : Int) + 4 ≤ (B.size : Int) := by omega
              have f4 : ((a : Int) + 4).toNat = a + 4 := by omega
              go_region_held3 (fun w' => True) (first | trivial | go_keep) (first | (go_at_call 82; refine (ks _).mono ?_; rintro e w' ⟨rfl, rfl⟩) | (go_at_call 83; refine (ke _).mono ?_; rintro e w' ⟨rfl, hbe⟩))
              go_wp2
              go_ret2
              exact ⟨by rw [HG.out]; first | rfl | (rw [if_pos rfl, if_pos rfl, HPt.out, HW.out]; rfl), (Below.refl w.heap.size w).drew.trans hbe⟩
            · have HG := Lib.hid (hy2 hE)
              have hq : (encR P == (B.extract a (a + 4)).toList) = false := first_ne hl hE
              clear hy1 hy2 hE
              generalize encR P = L at *
              go_wp2
              have w1 : IntKind.i64.wrap ((a : Int) + 4) = (a : Int) + 4 := IntWalk.i64_in _ (by omega)
              have ksl := str_cut B a 4 ((a : Int) + 4) (by omega) c9
              have f1 : (0 : Int) ≤ (a : Int) := by omega
              have f2 : (a : Int) ≤ (a : Int) + 4 := by omega
              have f3 : (a : Int) + 4 ≤ (B.size : Int) := by omega
              have f4 : ((a : Int) + 4).toNat = a + 4 := by omega
              go_region_held3 (fun w' => True) (first | trivial | go_keep) (first | (go_at_call 82; refine (ks _).mono ?_; rintro e w' ⟨rfl, rfl⟩) | (go_at_call 83; refine (ke _).mono ?_; rintro e w' ⟨rfl, hbe⟩))
              go_wp2
              go_ret2
              exact ⟨by rw [HG.out]; first | rfl | (rw [if_pos rfl, if_pos rfl, HPt.out, HW.out]; rfl), (Below.refl w.heap.size w).drew.trans hbe⟩
    · have q9 : decide ((B.size : Int) < (a : Int) + 4) = true := decide_eq_true (by omega)
      have hg : goodR l = false := by rw [← Bool.not_eq_true, goodR_iff, hw]; omega
      have HG := Lib.hid hg
      clear hg hw hh hP0
      go_enter Tryd.func79, Tryd.ntmps79
      go_wp2
      go_ret2
      exact ⟨by rw [HG.out]; rfl, Below.refl _ _⟩
  · have q1 : decide (240 ≤ ((B[a]'ha).toNat : Int)) = false := decide_eq_false (by omega)
    by_cases c2 : 224 ≤ (B[a]'ha).toNat
    · have q2 : decide (224 ≤ ((B[a]'ha).toNat : Int)) = true := decide_eq_true (by omega)
      have hw : widR l = 3 := by rw [widR, hh]; unfold leadN; rw [if_neg c1, if_pos c2]
      have hP0 : leadP (hd8 l) = B[a].toNat - 224 := by rw [hh]; unfold leadP; rw [if_neg c1, if_pos c2]
      by_cases c9 : a + 3 ≤ B.size
      · have q9 : decide ((B.size : Int) < (a : Int) + 3) = false := decide_eq_false (by omega)
        have hPt : ptR l = accP (leadP (hd8 l)) ((l.drop 1).take 2) := by unfold ptR; rw [hw]
        have hPl : ∀ j, j ≤ 3 → accP (leadP (hd8 l)) ((l.drop 1).take j) < 67108864 := fun j hj => accP_lt _ _ (by omega) (by rw [List.length_take]; omega)
        have hst : FirstRel l 3 (.int .i64 (((B[a].toNat : Nat) : Int) - 224)) (.int .i64 1) := ⟨1, by omega, by omega, rfl, by rw [Nat.sub_self, List.take_zero]; show _ = Value.int .i64 ((leadP (hd8 l) : Nat) : Int); exact int_eq (by omega)⟩
        have HW := Lib.hid hw
        have HT := Lib.hid hPt
        have HL := Lib.hid hPl
        have HS := Lib.hid hst
        clear hw hPt hPl hst hP0 hh
        go_enter Tryd.func79, Tryd.ntmps79
        go_wp2
        go_loop [6, 8] (FirstRel l 3) (fun _ i => 4 - (RowKit.intOf i).toNat)
        case atStart => exact HS.out
        case round =>
          obtain ⟨k, hk1, hk2, rfl, rfl⟩ := hrel
          clear HS
          by_cases hlt : k < 3
          · have t1 : decide ((k : Int) < 3) = true := decide_eq_true (by omega)
            have hak : a + k < B.size := by omega
            have hsn := accP_next (l := l) (p := leadP (hd8 l)) hk1 (c := B[a + k]'hak) (by rw [hl]; exact drop_get hak)
            have hb2 : ((B[a + k]'hak).toNat : Int) ≤ 255 := by have := (B[a + k]'hak).toNat_lt; omega
            have HN := Lib.hid hsn
            have hpl := HL.out (k - 1) (by omega)
            clear hsn
            generalize accP (leadP (hd8 l)) ((l.drop 1).take (k - 1)) = P at *
            go_wp2
            go_round
            case rel => exact ⟨k + 1, by omega, by omega, by go_num, by rw [Nat.add_sub_cancel, HN.out]; exact int_eq (by omega)⟩
            case measure => simp [RowKit.intOf]; omega
          · obtain rfl : k = 3 := by omega
            have t1 : decide (((3 : Nat) : Int) < 3) = false := by decide
            have hpl := HL.out (3 - 1) (by omega)
            have hP : accP (leadP (hd8 l)) ((l.drop 1).take (3 - 1)) = ptR l := HT.out.symm
            rw [hP] at hpl ⊢
            clear hP
            have HX := Lib.hid (first_ext (a := a) (n := 3) c9 HW.out hl (p := ptR l) rfl)
            have HB := Lib.hid (first_bad (l := l))
            clear HT HL
            generalize hg : ptR l = P at *
            have HPt := Lib.hid hg
            clear hg
            rcases hs : scalB (P : Int) with _ | _
            · have HG := Lib.hid (HB.out hs)
              have ks : ∀ w, Calls Tryd.prog 82 #[.int .i64 (P : Int)] w fun e w' => e = .returned (.bool false) ∧ w' = w := fun w => by have := scalar_any w P; rw [hs] at this; exact this.mono fun _ _ h => ⟨h.1, h.2.symm⟩
              clear HX HB hs
              go_wp2
              go_quiet ((go_at_call 82; exact Calls.quiet_of_same (ks _)))
              go_wp2
              go_ret2
              exact ⟨by rw [HG.out]; rfl, below_drewN (Below.refl _ _) _⟩
            · have ks : ∀ w, Calls Tryd.prog 82 #[.int .i64 (P : Int)] w fun e w' => e = .returned (.bool true) ∧ w = w' := fun w => by have := scalar_any w P; rw [hs] at this; exact this
              have ke := fun w => encoded_any w P (by have := (scalB_iff _).1 hs; omega)
              have hy := HX.out hs
              clear HX HB hs
              obtain ⟨hy1, hy2⟩ := hy
              by_cases hE : encR P = l.take 3
              · have HG := Lib.hid (hy1 hE)
                have hq : (encR P == (B.extract a (a + 3)).toList) = true := first_eq hl hE
                clear hy1 hy2 hE
                generalize encR P = L at *
                go_wp2
                have w1 : IntKind.i64.wrap ((a : Int) + 3) = (a : Int) + 3 := IntWalk.i64_in _ (by omega)
                have ksl := str_cut B a 3 ((a : Int) + 3) (by omega) c9
                have f1 : (0 : Int) ≤ (a : Int) := by omega
                have f2 : (a : Int) ≤ (a : Int) + 3 := by omega
                have f3 : (a : Int) + 3 ≤ (B.size : Int) := by omega
                have f4 : ((a : Int) + 3).toNat = a + 3 := by omega
                go_region_held3 (fun w' => True) (first | trivial | go_keep) (first | (go_at_call 82; refine (ks _).mono ?_; rintro e w' ⟨rfl, rfl⟩) | (go_at_call 83; refine (ke _).mono ?_; rintro e w' ⟨rfl, hbe⟩))
                go_wp2
                go_ret2
                exact ⟨by rw [HG.out]; first | rfl | (rw [if_pos rfl, if_pos rfl, HPt.out, HW.out]; rfl), (Below.refl w.heap.size w).drew.trans hbe⟩
              · have HG := Lib.hid (hy2 hE)
                have hq : (encR P == (B.extract a (a + 3)).toList) = false := first_ne hl hE
                clear hy1 hy2 hE
                generalize encR P = L at *
                go_wp2
                have w1 : IntKind.i64.wrap ((a : Int) + 3) = (a : Int) + 3 := IntWalk.i64_in _ (by omega)
                have ksl := str_cut B a 3 ((a : Int) + 3) (by omega) c9
                have f1 : (0 : Int) ≤ (a : Int) := by omega
                have f2 : (a : Int) ≤ (a : Int) + 3 := by omega
                have f3 : (a : Int) + 3 ≤ (B.size : Int) := by omega
                have f4 : ((a : Int) + 3).toNat = a + 3 := by omega
                go_region_held3 (fun w' => True) (first | trivial | go_keep) (first | (go_at_call 82; refine (ks _).mono ?_; rintro e w' ⟨rfl, rfl⟩) | (go_at_call 83; refine (ke _).mono ?_; rintro e w' ⟨rfl, hbe⟩))
                go_wp2
                go_ret2
                exact ⟨by rw [HG.out]; first | rfl | (rw [if_pos rfl, if_pos rfl, HPt.out, HW.out]; rfl), (Below.refl w.heap.size w).drew.trans hbe⟩
      · have q9 : decide ((B.size : Int) < (a : Int) + 3) = true := decide_eq_true (by omega)
        have hg : goodR l = false := by rw [← Bool.not_eq_true, goodR_iff, hw]; omega
        have HG := Lib.hid hg
        clear hg hw hh hP0
        go_enter Tryd.func79, Tryd.ntmps79
        go_wp2
        go_ret2
        exact ⟨by rw [HG.out]; rfl, Below.refl _ _⟩
    · have q2 : decide (224 ≤ ((B[a]'ha).toNat : Int)) = false := decide_eq_false (by omega)
      by_cases c3 : 192 ≤ (B[a]'ha).toNat
      · have q3 : decide (192 ≤ ((B[a]'ha).toNat : Int)) = true := decide_eq_true (by omega)
        have hw : widR l = 2 := by rw [widR, hh]; unfold leadN; rw [if_neg c1, if_neg c2, if_pos c3]
        have hP0 : leadP (hd8 l) = B[a].toNat - 192 := by rw [hh]; unfold leadP; rw [if_neg c1, if_neg c2, if_pos c3]
        by_cases c9 : a + 2 ≤ B.size
        · have q9 : decide ((B.size : Int) < (a : Int) + 2) = false := decide_eq_false (by omega)
          have hPt : ptR l = accP (leadP (hd8 l)) ((l.drop 1).take 1) := by unfold ptR; rw [hw]
          have hPl : ∀ j, j ≤ 3 → accP (leadP (hd8 l)) ((l.drop 1).take j) < 67108864 := fun j hj => accP_lt _ _ (by omega) (by rw [List.length_take]; omega)
          have hst : FirstRel l 2 (.int .i64 (((B[a].toNat : Nat) : Int) - 192)) (.int .i64 1) := ⟨1, by omega, by omega, rfl, by rw [Nat.sub_self, List.take_zero]; show _ = Value.int .i64 ((leadP (hd8 l) : Nat) : Int); exact int_eq (by omega)⟩
          have HW := Lib.hid hw
          have HT := Lib.hid hPt
          have HL := Lib.hid hPl
          have HS := Lib.hid hst
          clear hw hPt hPl hst hP0 hh
          go_enter Tryd.func79, Tryd.ntmps79
          go_wp2
          go_loop [6, 8] (FirstRel l 2) (fun _ i => 3 - (RowKit.intOf i).toNat)
          case atStart => exact HS.out
          case round =>
            obtain ⟨k, hk1, hk2, rfl, rfl⟩ := hrel
            clear HS
            by_cases hlt : k < 2
            · have t1 : decide ((k : Int) < 2) = true := decide_eq_true (by omega)
              have hak : a + k < B.size := by omega
              have hsn := accP_next (l := l) (p := leadP (hd8 l)) hk1 (c := B[a + k]'hak) (by rw [hl]; exact drop_get hak)
              have hb2 : ((B[a + k]'hak).toNat : Int) ≤ 255 := by have := (B[a + k]'hak).toNat_lt; omega
              have HN := Lib.hid hsn
              have hpl := HL.out (k - 1) (by omega)
              clear hsn
              generalize accP (leadP (hd8 l)) ((l.drop 1).take (k - 1)) = P at *
              go_wp2
              go_round
              case rel => exact ⟨k + 1, by omega, by omega, by go_num, by rw [Nat.add_sub_cancel, HN.out]; exact int_eq (by omega)⟩
              case measure => simp [RowKit.intOf]; omega
            · obtain rfl : k = 2 := by omega
              have t1 : decide (((2 : Nat) : Int) < 2) = false := by decide
              have hpl := HL.out (2 - 1) (by omega)
              have hP : accP (leadP (hd8 l)) ((l.drop 1).take (2 - 1)) = ptR l := HT.out.symm
              rw [hP] at hpl ⊢
              clear hP
              have HX := Lib.hid (first_ext (a := a) (n := 2) c9 HW.out hl (p := ptR l) rfl)
              have HB := Lib.hid (first_bad (l := l))
              clear HT HL
              generalize hg : ptR l = P at *
              have HPt := Lib.hid hg
              clear hg
              rcases hs : scalB (P : Int) with _ | _
              · have HG := Lib.hid (HB.out hs)
                have ks : ∀ w, Calls Tryd.prog 82 #[.int .i64 (P : Int)] w fun e w' => e = .returned (.bool false) ∧ w' = w := fun w => by have := scalar_any w P; rw [hs] at this; exact this.mono fun _ _ h => ⟨h.1, h.2.symm⟩
                clear HX HB hs
                go_wp2
                go_quiet ((go_at_call 82; exact Calls.quiet_of_same (ks _)))
                go_wp2
                go_ret2
                exact ⟨by rw [HG.out]; rfl, below_drewN (Below.refl _ _) _⟩
              · have ks : ∀ w, Calls Tryd.prog 82 #[.int .i64 (P : Int)] w fun e w' => e = .returned (.bool true) ∧ w = w' := fun w => by have := scalar_any w P; rw [hs] at this; exact this
                have ke := fun w => encoded_any w P (by have := (scalB_iff _).1 hs; omega)
                have hy := HX.out hs
                clear HX HB hs
                obtain ⟨hy1, hy2⟩ := hy
                by_cases hE : encR P = l.take 2
                · have HG := Lib.hid (hy1 hE)
                  have hq : (encR P == (B.extract a (a + 2)).toList) = true := first_eq hl hE
                  clear hy1 hy2 hE
                  generalize encR P = L at *
                  go_wp2
                  have w1 : IntKind.i64.wrap ((a : Int) + 2) = (a : Int) + 2 := IntWalk.i64_in _ (by omega)
                  have ksl := str_cut B a 2 ((a : Int) + 2) (by omega) c9
                  have f1 : (0 : Int) ≤ (a : Int) := by omega
                  have f2 : (a : Int) ≤ (a : Int) + 2 := by omega
                  have f3 : (a : Int) + 2 ≤ (B.size : Int) := by omega
                  have f4 : ((a : Int) + 2).toNat = a + 2 := by omega
                  go_region_held3 (fun w' => True) (first | trivial | go_keep) (first | (go_at_call 82; refine (ks _).mono ?_; rintro e w' ⟨rfl, rfl⟩) | (go_at_call 83; refine (ke _).mono ?_; rintro e w' ⟨rfl, hbe⟩))
                  go_wp2
                  go_ret2
                  exact ⟨by rw [HG.out]; first | rfl | (rw [if_pos rfl, if_pos rfl, HPt.out, HW.out]; rfl), (Below.refl w.heap.size w).drew.trans hbe⟩
                · have HG := Lib.hid (hy2 hE)
                  have hq : (encR P == (B.extract a (a + 2)).toList) = false := first_ne hl hE
                  clear hy1 hy2 hE
                  generalize encR P = L at *
                  go_wp2
                  have w1 : IntKind.i64.wrap ((a : Int) + 2) = (a : Int) + 2 := IntWalk.i64_in _ (by omega)
                  have ksl := str_cut B a 2 ((a : Int) + 2) (by omega) c9
                  have f1 : (0 : Int) ≤ (a : Int) := by omega
                  have f2 : (a : Int) ≤ (a : Int) + 2 := by omega
                  have f3 : (a : Int) + 2 ≤ (B.size : Int) := by omega
                  have f4 : ((a : Int) + 2).toNat = a + 2 := by omega
                  go_region_held3 (fun w' => True) (first | trivial | go_keep) (first | (go_at_call 82; refine (ks _).mono ?_; rintro e w' ⟨rfl, rfl⟩) | (go_at_call 83; refine (ke _).mono ?_; rintro e w' ⟨rfl, hbe⟩))
                  go_wp2
                  go_ret2
                  exact ⟨by rw [HG.out]; first | rfl | (rw [if_pos rfl, if_pos rfl, HPt.out, HW.out]; rfl), (Below.refl w.heap.size w).drew.trans hbe⟩
        · have q9 : decide ((B.size : Int) < (a : Int) + 2) = true := decide_eq_true (by omega)
          have hg : goodR l = false := by rw [← Bool.not_eq_true, goodR_iff, hw]; omega
          have HG := Lib.hid hg
          clear hg hw hh hP0
          go_enter Tryd.func79, Tryd.ntmps79
          go_wp2
          go_ret2
          exact ⟨by rw [HG.out]; rfl, Below.refl _ _⟩
      · have q3 : decide (192 ≤ ((B[a]'ha).toNat : Int)) = false := decide_eq_false (by omega)
        have hw : widR l = 1 := by rw [widR, hh]; unfold leadN; rw [if_neg c1, if_neg c2, if_neg c3]
        have hP0 : leadP (hd8 l) = B[a].toNat := by rw [hh]; unfold leadP; rw [if_neg c1, if_neg c2, if_neg c3]
        by_cases c9 : a + 1 ≤ B.size
        · have q9 : decide ((B.size : Int) < (a : Int) + 1) = false := decide_eq_false (by omega)
          have hPt : ptR l = accP (leadP (hd8 l)) ((l.drop 1).take 0) := by unfold ptR; rw [hw]
          have hPl : ∀ j, j ≤ 3 → accP (leadP (hd8 l)) ((l.drop 1).take j) < 67108864 := fun j hj => accP_lt _ _ (by omega) (by rw [List.length_take]; omega)
          have hst : FirstRel l 1 (.int .i64 (((B[a].toNat : Nat) : Int))) (.int .i64 1) := ⟨1, by omega, by omega, rfl, by rw [Nat.sub_self, List.take_zero]; show _ = Value.int .i64 ((leadP (hd8 l) : Nat) : Int); exact int_eq (by omega)⟩
          have HW := Lib.hid hw
          have HT := Lib.hid hPt
          have HL := Lib.hid hPl
          have HS := Lib.hid hst
          clear hw hPt hPl hst hP0 hh
          go_enter Tryd.func79, Tryd.ntmps79
          go_wp2
          go_loop [6, 8] (FirstRel l 1) (fun _ i => 2 - (RowKit.intOf i).toNat)
          case atStart => exact HS.out
          case round =>
            obtain ⟨k, hk1, hk2, rfl, rfl⟩ := hrel
            clear HS
            have hlt : True := trivial
            · obtain rfl : k = 1 := by omega
              have t1 : decide (((1 : Nat) : Int) < 1) = false := by decide
              have hpl := HL.out (1 - 1) (by omega)
              have hP : accP (leadP (hd8 l)) ((l.drop 1).take (1 - 1)) = ptR l := HT.out.symm
              rw [hP] at hpl ⊢
              clear hP
              have HX := Lib.hid (first_ext (a := a) (n := 1) c9 HW.out hl (p := ptR l) rfl)
              have HB := Lib.hid (first_bad (l := l))
              clear HT HL
              generalize hg : ptR l = P at *
              have HPt := Lib.hid hg
              clear hg
              rcases hs : scalB (P : Int) with _ | _
              · have HG := Lib.hid (HB.out hs)
                have ks : ∀ w, Calls Tryd.prog 82 #[.int .i64 (P : Int)] w fun e w' => e = .returned (.bool false) ∧ w' = w := fun w => by have := scalar_any w P; rw [hs] at this; exact this.mono fun _ _ h => ⟨h.1, h.2.symm⟩
                clear HX HB hs
                go_wp2
                go_quiet ((go_at_call 82; exact Calls.quiet_of_same (ks _)))
                go_wp2
                go_ret2
                exact ⟨by rw [HG.out]; rfl, below_drewN (Below.refl _ _) _⟩
              · have ks : ∀ w, Calls Tryd.prog 82 #[.int .i64 (P : Int)] w fun e w' => e = .returned (.bool true) ∧ w = w' := fun w => by have := scalar_any w P; rw [hs] at this; exact this
                have ke := fun w => encoded_any w P (by have := (scalB_iff _).1 hs; omega)
                have hy := HX.out hs
                clear HX HB hs
                obtain ⟨hy1, hy2⟩ := hy
                by_cases hE : encR P = l.take 1
                · have HG := Lib.hid (hy1 hE)
                  have hq : (encR P == (B.extract a (a + 1)).toList) = true := first_eq hl hE
                  clear hy1 hy2 hE
                  generalize encR P = L at *
                  go_wp2
                  have w1 : IntKind.i64.wrap ((a : Int) + 1) = (a : Int) + 1 := IntWalk.i64_in _ (by omega)
                  have ksl := str_cut B a 1 ((a : Int) + 1) (by omega) c9
                  have f1 : (0 : Int) ≤ (a : Int) := by omega
                  have f2 : (a : Int) ≤ (a : Int) + 1 := by omega
                  have f3 : (a : Int) + 1 ≤ (B.size : Int) := by omega
                  have f4 : ((a : Int) + 1).toNat = a + 1 := by omega
                  go_region_held3 (fun w' => True) (first | trivial | go_keep) (first | (go_at_call 82; refine (ks _).mono ?_; rintro e w' ⟨rfl, rfl⟩) | (go_at_call 83; refine (ke _).mono ?_; rintro e w' ⟨rfl, hbe⟩))
                  go_wp2
                  go_ret2
                  exact ⟨by rw [HG.out]; first | rfl | (rw [if_pos rfl, if_pos rfl, HPt.out, HW.out]; rfl), (Below.refl w.heap.size w).drew.trans hbe⟩
                · have HG := Lib.hid (hy2 hE)
                  have hq : (encR P == (B.extract a (a + 1)).toList) = false := first_ne hl hE
                  clear hy1 hy2 hE
                  generalize encR P = L at *
                  go_wp2
                  have w1 : IntKind.i64.wrap ((a : Int) + 1) = (a : Int) + 1 := IntWalk.i64_in _ (by omega)
                  have ksl := str_cut B a 1 ((a : Int) + 1) (by omega) c9
                  have f1 : (0 : Int) ≤ (a : Int) := by omega
                  have f2 : (a : Int) ≤ (a : Int) + 1 := by omega
                  have f3 : (a : Int) + 1 ≤ (B.size : Int) := by omega
                  have f4 : ((a : Int) + 1).toNat = a + 1 := by omega
                  go_region_held3 (fun w' => True) (first | trivial | go_keep) (first | (go_at_call 82; refine (ks _).mono ?_; rintro e w' ⟨rfl, rfl⟩) | (go_at_call 83; refine (ke _).mono ?_; rintro e w' ⟨rfl, hbe⟩))
                  go_wp2
                  go_ret2
                  exact ⟨by rw [HG.out]; first | rfl | (rw [if_pos rfl, if_pos rfl, HPt.out, HW.out]; rfl), (Below.refl w.heap.size w).drew.trans hbe⟩
        · have q9 : decide ((B.size : Int) < (a : Int) + 1) = true := decide_eq_true (by omega)
          have hg : goodR l = false := by rw [← Bool.not_eq_true, goodR_iff, hw]; omega
          have HG := Lib.hid hg
          clear hg hw hh hP0
          go_enter Tryd.func79, Tryd.ntmps79
          go_wp2
          go_ret2
          exact ⟨by rw [HG.out]; rfl, Below.refl _ _⟩
end Go.Proofs.YtfjiikcbcoohdaaDoor
