/-
  The walks of the functions that all statements of layer 6 share: copied, awake (the chapter's examples). Conditions: none.
-/
import Derived.Test.YthjmdfimnbmbfaaFrameSeal
import Derived.Test.YthjmdfimnbmbfaaFrameOpen
import Derived.Test.YthjmdfimnbmbfaaFrameMath
namespace Go.Proofs.Ythjmdfimnbmbfaa
open Go.RowKit
set_option linter.unusedVariables false

theorem step_below {w W W' : World} (h : Below w.heap.size w W) (hb : Below W.heap.size W W') : Below w.heap.size w W' := h.trans (hb.mono h.size)

set_option maxHeartbeats 1000000 in
theorem copied_any (w : World) (A : Option Addr) (c : Nat) (l : List UInt8) (h : Rd w A (l.map U8)) (hl : l.length ≤ 140737488355328) :
    Calls Try.prog 13 #[.slice A l.length c] w (RetNew U8 5 l w) := by
  obtain ⟨i0, hi0, hz0, hz1, hz2⟩ := info_parts info_u8
  go_enter Try.func13, Try.ntmps13
  go_wp2_with (first
    | (at_builtin
       refine wpList_append_map _ U8 U8_one rfl (.tmp 3) (.tmp 4) _ rfl w.heap.size 5 i0 _ 1 Try.underlying22 hi0 hz0 hz1 hz2 rfl (some ⟨w.heap.size, 0, none⟩) 0 [] rfl (.inr ⟨rfl, rfl, _, rfl, Nat.le_refl _, by simp⟩) A c l rfl (h.alloc _) (by simp only [maxLen, List.length_nil]; omega) (by simp only [List.length_nil]; omega) (by simp) ?_
       intro A1 c1 l1 w1 e1 hown1 hr1 hg1 hb1 hat1
       obtain rfl : l = l1 := e1.out.symm)
    | fail)
  go_ret
  exact ⟨A1, c1, rfl, hown1, ((Below.refl _ _).alloc (Nat.le_refl _) _).trans hb1⟩

/-- Open by its values -/
def RetOp (K : Int) (C : List UInt8) (T e : Int) (w : World) (en : Ending) (w' : World) : Prop :=
  ∃ A c, en = .returned (.tuple #[.int .i64 K, .slice A C.length c, .int .i64 T, .int .i64 e]) ∧ Rd w' A (C.map U8) ∧ C.length ≤ c ∧ Below w.heap.size w w'
theorem open_val (w : World) (A : Option Addr) (c : Nat) (b : List UInt8) (hbc : b.length ≤ c) (h : Rd w A (b.map U8)) (hl : b.length ≤ 1000000000) (a : Int) (lo : -9223372036854775808 ≤ a) (hi : a ≤ 9223372036854775807) {K T e : Int} {C : List UInt8} (hR : opR b a = (e, K, C, T)) :
    Calls Try.prog 15 #[.slice A b.length c, .int .i64 a] w (RetOp K C T e w) := by
  have := open_any w A c b hbc h hl a lo hi
  unfold RetOpen opK opC opT opE at this; rw [hR] at this; exact this
theorem ropen_val (w : World) (A : Option Addr) (c : Nat) (b : List UInt8) (hbc : b.length ≤ c) (h : Rd w A (b.map U8)) (hl : b.length ≤ 1000000000) (a : Int) (lo : -9223372036854775808 ≤ a) (hi : a ≤ 9223372036854775807) {K T e : Int} {C : List UInt8} (hR : opR b a = (e, K, C, T)) :
    Calls Try.prog 16 #[.slice A b.length c, .int .i64 a] w (RetOp K C T e w) := by
  have := ropen_any w A c b hbc h hl a lo hi
  unfold RetOpen opK opC opT opE at this; rw [hR] at this; exact this
/-- an Open with no content: the numbers alone -/
def RetOp0 (K T e : Int) (w : World) (en : Ending) (w' : World) : Prop := ∃ A c, en = .returned (.tuple #[.int .i64 K, .slice A 0 c, .int .i64 T, .int .i64 e]) ∧ Below w.heap.size w w'
theorem RetOp.zero {K T e : Int} {w w' : World} {en : Ending} (h : RetOp K [] T e w en w') : RetOp0 K T e w en w' := by
  obtain ⟨A, c, he, _, _, hb⟩ := h; exact ⟨A, c, he, hb⟩

theorem f7 : fseal 1 [] = [76, 1, 0, 247, 156, 218, 159] := by decide +kernel
theorem fcallA (w : World) : Calls Try.prog 12 #[.int .i64 1, .slice none 0 0] w (fun e w' => ∃ A c, e = .returned (.tuple #[.slice A 7 c, .int .i64 0]) ∧ Rd w' A ([76, 1, 0, 247, 156, 218, 159].map U8) ∧ 7 ≤ c ∧ Below w.heap.size w w') := by
  have h := seal_any w 1 (by decide) (by decide) none 0 [] (Rd.nil _ _) (by decide)
  obtain ⟨e1, e2⟩ := sl_ok (kind := 1) (b := []) (by decide) (by decide)
  rw [e1, e2, f7] at h
  refine h.mono ?_
  rintro e w' ⟨A, c, rfl, ho, hb⟩
  refine ⟨A, c, rfl, ho.rd', ?_, hb⟩
  obtain ⟨_, _, e, q, _⟩ := ho.form
  injection e with _ _ e3
  rw [e3]; exact q
theorem fcallB (w : World) (A : Option Addr) (c : Nat) (hc : 7 ≤ c) (h : Rd w A ([76, 1, 0, 247, 156, 218, 159].map U8)) : Calls Try.prog 15 #[.slice A 7 c, .int .i64 0] w (RetOp0 1 7 0 w) := by
  have hR := op_seal [] [] 1 [] (by decide) (by decide) (by decide)
  rw [List.append_nil, List.nil_append, f7] at hR
  exact (open_val w A c [76, 1, 0, 247, 156, 218, 159] hc h (by decide) 0 (by decide) (by decide) hR).mono fun _ _ h => h.zero
theorem fcallC (w : World) : Calls Try.prog 15 #[.slice none 0 0, .int .i64 0] w (RetOp0 0 0 4 w) :=
  (open_val w none 0 [] (by decide) (Rd.nil _ _) (by decide) 0 (by decide) (by decide) (op_end (b := []) (k := 0) rfl)).mono fun _ _ h => h.zero
theorem fcallD (w : World) : Calls Try.prog 15 #[.slice none 0 0, .int .i64 1] w (RetOp0 0 0 2 w) :=
  (open_val w none 0 [] (by decide) (Rd.nil _ _) (by decide) 1 (by decide) (by decide) (op_range (b := []) (by decide))).mono fun _ _ h => h.zero
theorem fcallE (w : World) : Calls Try.prog 15 #[.slice (some ⟨w.heap.size, 0, none⟩) 2 2, .int .i64 0] (w.alloc (.cells #[.int .u8 76, .int .u8 0] 5)) (RetOp0 0 0 3 (w.alloc (.cells #[.int .u8 76, .int .u8 0] 5))) :=
  (open_val _ (some ⟨w.heap.size, 0, none⟩) 2 [76, 0] (by decide) (Rd.new w _ 5 (0, 0)) (by decide) 0 (by decide) (by decide) (op_zero (b := [76, 0]) (k := 0) (by decide) (by decide) (by decide))).mono fun _ _ h => h.zero
theorem fcallF (w : World) : Calls Try.prog 15 #[.slice (some ⟨w.heap.size, 0, none⟩) 3 3, .int .i64 0] (w.alloc (.cells #[.int .u8 76, .int .u8 1, .int .u8 1] 5)) (RetOp0 0 0 3 (w.alloc (.cells #[.int .u8 76, .int .u8 1, .int .u8 1] 5))) :=
  (open_val _ (some ⟨w.heap.size, 0, none⟩) 3 [76, 1, 1] (by decide) (Rd.new w _ 5 (0, 0)) (by decide) 0 (by decide) (by decide) (op_size (b := [76, 1, 1]) (k := 0) (Marked.mk' (by decide) (by decide) (by decide)) (by decide) (by decide))).mono fun _ _ h => h.zero
theorem fcallG (w : World) : Calls Try.prog 12 #[.int .i64 0, .slice none 0 0] w (fun e w' => ∃ A c, e = .returned (.tuple #[.slice A 0 c, .int .i64 1]) ∧ Below w.heap.size w w') := by
  have h := seal_any w 0 (by decide) (by decide) none 0 [] (Rd.nil _ _) (by decide)
  obtain ⟨e1, e2⟩ := sl_arg (kind := 0) (b := []) (by decide)
  rw [e1, e2] at h
  refine h.mono ?_
  rintro e w' ⟨A, c, rfl, _, hb⟩
  exact ⟨A, c, rfl, hb⟩

set_option maxRecDepth 20000 in
set_option maxHeartbeats 2000000 in
theorem awake_any (w : World) : Calls Try.prog 11 #[] w fun e w' => e = .returned (.bool true) ∧ Below w.heap.size w w' := by
  obtain ⟨i0, hi0, hz0, hz1, hz2⟩ := info_parts info_u8
  go_enter Try.func11, Try.ntmps11
  go_wp2_with fail
  refine (fcallA _).mono ?_
  rintro e w1 ⟨A1, c1, rfl, hr1, hc1, hb1⟩
  obtain ⟨b1, o1, rfl, hlt1, hcell⟩ := hr1 (by decide)
  have g0 : w1.cell? ⟨b1, o1, none⟩ = some (.int .u8 76) := hcell 0 _ rfl
  have g1 : w1.cell? ⟨b1, o1 + 1, none⟩ = some (.int .u8 1) := hcell 1 _ rfl
  have g2 : w1.cell? ⟨b1, o1 + 2, none⟩ = some (.int .u8 0) := hcell 2 _ rfl
  clear hcell
  obtain ⟨L7, hL7⟩ : ∃ L : List UInt8, L = [76, 1, 0, 247, 156, 218, 159] := ⟨_, rfl⟩
  go_wp2_with (first
    | (at_builtin
       refine wpList_append_map _ U8 U8_one rfl (.tmp 55) (.tmp 56) _ rfl w1.heap.size 5 i0 _ 1 Try.underlying22 hi0 hz0 hz1 hz2 rfl (some ⟨w1.heap.size, 0, none⟩) 0 [] rfl (.inr ⟨rfl, rfl, _, rfl, Nat.le_refl _, by simp⟩) (some ⟨b1, o1, none⟩) c1 [76, 1, 0, 247, 156, 218, 159] rfl (hr1.alloc _) (by simp only [maxLen, List.length_nil, List.length_cons]; omega) (by simp only [List.length_nil, List.length_cons]; omega) (by simp) ?_
       intro A2 c2 l2 w2 e2 hown2 hr2 hg2 hb2 hat2
       obtain rfl : [76, 1, 0, 247, 156, 218, 159] = l2 := e2.out.symm
       have hb2 := hb1.trans ((((Below.refl w1.heap.size w1).alloc (Nat.le_refl _) (.cells #[] 5)).trans hb2).mono hb1.size)
       have hc2 : 7 ≤ c2 := (by obtain ⟨_, _, e, q, _⟩ := hown2.form; injection e with _ _ e3; rw [e3]; exact q)
       clear hg2 hat2 hown2 e2)
    | fail)
  clear g0 g1 g2 hL7 L7
  refine (fcallB _ _ _ hc2 hr2).mono ?_
  rintro e w3 ⟨A3, c3, rfl, hb3⟩
  have hb3 := step_below hb2 hb3
  clear hb2 hr2 hb1 hr1
  go_wp2_with fail
  refine (fcallC _).mono ?_
  rintro e w4 ⟨A4, c4, rfl, hb4⟩
  have hb4 := step_below hb3 hb4
  go_wp2_with fail
  refine (fcallD _).mono ?_
  rintro e w5 ⟨A5, c5, rfl, hb5⟩
  have hb5 := step_below hb4 hb5
  clear hb3 hb4
  go_wp2_with fail
  refine (fcallE _).mono ?_
  rintro e w6 ⟨A6, c6, rfl, hb6⟩
  have hb6 := step_below (hb5.alloc hb5.size _) hb6
  go_wp2_with fail
  refine (fcallF _).mono ?_
  rintro e w7 ⟨A7, c7, rfl, hb7⟩
  have hb7 := step_below (hb6.alloc hb6.size _) hb7
  go_wp2_with fail
  refine (fcallG _).mono ?_
  rintro e w8 ⟨A8, c8, rfl, hb8⟩
  have hb8 := step_below hb7 hb8
  go_wp2_with fail
  go_ret
  exact ⟨rfl, hb8⟩
end Go.Proofs.Ythjmdfimnbmbfaa
