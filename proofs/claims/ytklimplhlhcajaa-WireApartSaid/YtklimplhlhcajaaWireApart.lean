/-
  The walk of the statement WireApart. Conditions: the arguments read as their types say.
-/
import Derived.Test.YtklimplhlhcajaaWireCut
import Derived.Laws.OwnMore
namespace Go.Proofs.Ytklimplhlhcajaa
open Go.RowKit
set_option linter.unusedVariables false

def RetOwnU (L : List UInt8) (w : World) (e : Ending) (w' : World) : Prop := ∃ A c, e = .returned (.slice A L.length c) ∧ Up w w' ∧ Own w' w.heap.size 5 1 (.slice A L.length c) L.length (L.map U8)
theorem RetNew.ownU {l : List UInt8} {w : World} {e : Ending} {w' : World} (h : RetNew U8 5 l w e w') : RetOwnU l w e w' := by
  obtain ⟨A, c, he, h1, hb⟩ := h
  exact ⟨A, c, he, Up.of hb, h1⟩
/-- a row of bytes of the call's own, its content open -/
def Row8 (w : World) (g n c : Nat) : Prop := ∃ base xs, w.ownsRow base 5 1 (.slice (some ⟨g, 0, none⟩) n c) n xs
theorem Row8.cell {w : World} {g n c : Nat} (h : Row8 w g n c) {j : Nat} (hj : j < n) : (∃ u, w.cell? ⟨g, j, none⟩ = some u) ∧ w.frozen? ⟨g, j, none⟩ = false := by
  obtain ⟨b, xs, h⟩ := h
  refine ⟨⟨xs[j]'(by have := h.1; omega), ?_⟩, h.frozenAt j⟩
  rw [h.cellAt j (by omega), List.getElem?_eq_getElem]
theorem Row8.set {w : World} {g n c : Nat} (h : Row8 w g n c) (j : Nat) (u : Value) : Row8 (w.setCell ⟨g, j, none⟩ u) g n c := by
  obtain ⟨b, xs, h⟩ := h
  exact ⟨b, _, (h.stored j u).1⟩
theorem Row8.other {w : World} {g n c g' : Nat} (h : Row8 w g n c) (hne : g ≠ g') (j : Nat) (u : Value) : Row8 (w.setCell ⟨g', j, none⟩ u) g n c := by
  obtain ⟨b, xs, h⟩ := h
  refine ⟨b, xs, h.1, ?_⟩
  rcases h.2 with h0 | ⟨k, cap, cur, hv, hb, hg, r⟩
  · exact .inl h0
  · refine .inr ⟨k, cap, cur, hv, hb, ?_, r⟩
    have hk : k = g := by injection hv with e1 _ _; injection e1 with e1; injection e1 with e1; exact e1.symm
    rw [Below.heap_setCell _ _ _ _ (show k ≠ g' by omega)]; exact hg
theorem Rd.other {w : World} {A : Option Addr} {l : List Value} {g : Nat} (h : Rd w A l) (hA : ∀ b off, A = some ⟨b, off, none⟩ → b ≠ g) (j : Nat) (u : Value) : Rd (w.setCell ⟨g, j, none⟩ u) A l := by
  intro hl
  obtain ⟨b, off, e, hb, hc⟩ := h hl
  refine ⟨b, off, e, by simpa using hb, fun i v hv => ?_⟩
  rw [World.cell?_of_block (w := w) (Below.heap_setCell _ _ _ _ (hA b off e))]
  exact hc i v hv
def ApRel (w : World) (lb : Nat) (A0 : Option Addr) (R : List UInt8) (g1 n1 c1 g2 n2 c2 g3 n3 c3 : Nat) (vi : Value) (wr : World) : Prop :=
  ∃ k : Nat, k ≤ lb ∧ vi = .int .i64 k ∧ Row8 wr g1 n1 c1 ∧ Row8 wr g2 n2 c2 ∧ Row8 wr g3 n3 c3 ∧ Rd wr A0 (R.map U8) ∧ Below w.heap.size w wr

set_option maxRecDepth 20000 in
set_option maxHeartbeats 4000000 in
theorem walk_WireApart (w : World) (A : Option Addr) (c : Nat) (l : List UInt8) (h : Rd w A (l.map U8)) (hl : l.length ≤ maxLen) (hlc : l.length ≤ c)
    (n : Int) (s : List UInt8) (B : Option Addr) (m : List Int) (d : Nat) (bn : -9223372036854775808 ≤ n ∧ n ≤ 9223372036854775807) (bs : s.length ≤ maxLen) (hB : Rd w B (m.map I64)) (hm : m.length ≤ maxLen)
    (hbd : ∀ n ∈ m, -9223372036854775808 ≤ n ∧ n ≤ 9223372036854775807) (hmd : m.length ≤ d) :
    Calls Try.prog 5 #[.slice A l.length c, .agg #[.int .i64 n, .string ⟨s.toArray⟩, .slice B m.length d]] w fun e w' => e = .returned (.bool true) ∧ Below w.heap.size w w' := by
  obtain ⟨i0, hi0, hz0, hz1, hz2⟩ := info_parts info_u8
  obtain ⟨g0, g1, g2⟩ := box3 w (.int .i64 n) (.string ⟨s.toArray⟩) (.slice B m.length d) 31
  have hbw : Below w.heap.size w (w.alloc (.cells #[.int .i64 n, .string ⟨s.toArray⟩, .slice B m.length d] 31)) := (Below.refl _ _).alloc (Nat.le_refl _) _
  unfold maxLen at hl bs hm
  by_cases hf : l.length ≤ 300 ∧ s.length ≤ 300 ∧ m.length ≤ 100
  · obtain ⟨f1, f2, f3⟩ := hf
    have hA := h.below hbw
    have hB := hB.below hbw
    go_enter Try.func5, Try.ntmps5
    go_wp2_with fail
    refine (few_yes _ _ _ _ _ _ _ _ f1 (by simpa [ByteArray.size] using f2) f3).mono ?_
    rintro e w' ⟨rfl, rfl⟩
    have Hbd := Lib.hid hbd
    clear hbd h
    generalize w.alloc (.cells #[.int .i64 n, .string ⟨s.toArray⟩, .slice B m.length d] 31) = W0 at *
    obtain ⟨R, hR⟩ : ∃ R : List UInt8, R = l ++ [1, 2, 3, 4, 5, 6, 7, 8, 9, 10] := ⟨_, rfl⟩
    have hRl : R.length = l.length + 10 := by rw [hR]; simp
    have hRle : l.length ≤ R.length ∧ R.length ≤ 310 := by omega
    have HR := Lib.hid hR
    have HRl := Lib.hid hRl
    clear hR hRl
    go_wp2_with (first
      | (at_builtin
         refine wpList_append_map _ U8 U8_one rfl (.tmp 19) (.tmp 20) _ rfl W0.heap.size 5 i0 _ 1 Try.underlying22 hi0 hz0 hz1 hz2 rfl (some ⟨W0.heap.size, 0, none⟩) 0 [] rfl (.inr ⟨rfl, rfl, _, rfl, Nat.le_refl _, by simp⟩) A c l rfl (hA.alloc _) (by simp only [maxLen, List.length_nil]; omega) (by simp only [List.length_nil]; omega) (by simp) ?_
         intro Aa ca la wa ea howna hra hga hba hata
         obtain rfl : l = la := ea.out.symm
         have ha1 := ((Below.refl W0.heap.size W0).alloc (Nat.le_refl _) (.cells #[] 5)).trans hba
         clear ea hga hba hata hra)
      | (at_builtin
         refine wpList_append_map _ U8 U8_one rfl (.tmp 21) (.tmp 22) _ rfl W0.heap.size 5 i0 _ 1 Try.underlying22 hi0 hz0 hz1 hz2 rfl Aa ca l rfl (howna.alloc _) (some ⟨wa.heap.size, 0, none⟩) 10 [1, 2, 3, 4, 5, 6, 7, 8, 9, 10] rfl (Rd.new _ _ _ _) (by simp only [maxLen, List.length_cons, List.length_nil]; omega) (by simp only [List.length_cons, List.length_nil]; omega) (by simp; have := ha1.size; omega) ?_
         intro A0 c0 lb W eb hown0 hrb hgb hbb hatb
         obtain rfl : R = lb := by rw [HR.out]; exact eb.out.symm
         have hu1 : Up W0 W := Up.of ((ha1.alloc ha1.size _).trans hbb)
         have hr0 := hown0.rd'
         have lt0 := hown0.lt
         have lc0 : R.length ≤ c0 := (by obtain ⟨_, _, e, q, _⟩ := hown0.form; injection e with _ _ e3; omega)
         have cv0 := str_of W A0 c0 R hr0
         clear eb hgb hbb hatb hrb howna ha1 hown0)
      | fail)
    have g0 := hu1.cell g0
    have g1 := hu1.cell g1
    have g2 := hu1.cell g2
    have hB := hu1.rd hB
    have hbW := step_below hbw hu1.b
    have hrl : Rd W A0 (l.map U8) := by
      have := hr0.take8 l.length
      rwa [HR.out, List.take_left] at this
    clear hu1 hA hbw cv0
    have sl := slice_to A0 c0 R.length lc0 (l.length : Int) l.length rfl hRle.1
    have ld0 : ∀ w', Up W w' → w'.cell? ⟨w.heap.size, 0, none⟩ = some (.int .i64 n) := fun w' h => h.cell g0
    have ld1 : ∀ w', Up W w' → w'.cell? ⟨w.heap.size, 1, none⟩ = some (.string ⟨s.toArray⟩) := fun w' h => h.cell g1
    have ld2 : ∀ w', Up W w' → w'.cell? ⟨w.heap.size, 2, none⟩ = some (.slice B m.length d) := fun w' h => h.cell g2
    have k1 : ∀ w', Up W w' → Calls Try.prog 14 #[.slice A0 l.length c0, .int .i64 n] w' (RetOwnU (l ++ enc n) w') := fun w' h => (putInt_any _ _ _ _ (h.rd hrl) (by omega) n bn.1 bn.2).mono fun _ _ h => h.ownU
    have k2 : ∀ w', Up W w' → Calls Try.prog 16 #[.slice A0 l.length c0, .string ⟨s.toArray⟩] w' (RetOwnU (l ++ encT s) w') := fun w' h => (putText_any _ _ _ _ (h.rd hrl) (by omega) s (by omega)).mono fun _ _ h => h.ownU
    have k3 : ∀ w', Up W w' → Calls Try.prog 18 #[.slice A0 l.length c0, .slice B m.length d] w' (RetOwnU (l ++ encL m) w') := fun w' h => (putInts_any _ _ _ _ (h.rd hrl) (by omega) _ _ m (h.rd hB) (by omega) Hbd.out).mono fun _ _ h => h.ownU
    have en1 : l.length < (l ++ enc n).length ∧ (l ++ enc n).length ≤ 9223372036854775807 := by have := enc_length n; simp only [List.length_append]; omega
    have en2 : l.length < (l ++ encT s).length ∧ (l ++ encT s).length ≤ 9223372036854775807 := by have := enc_length (s.length : Int); have := encT_length s; unfold encT at *; simp only [List.length_append] at *; omega
    have en3 : l.length < (l ++ encL m).length ∧ (l ++ encL m).length ≤ 9223372036854775807 := by have := enc_length (m.length : Int); have := encL_length m; unfold encL at *; simp only [List.length_append] at *; omega
    generalize l ++ enc n = L1 at *
    generalize l ++ encT s = L2 at *
    generalize l ++ encL m = L3 at *
    obtain ⟨en1, en1'⟩ := en1
    obtain ⟨en2, en2'⟩ := en2
    obtain ⟨en3, en3'⟩ := en3
    clear g0 g1 g2
    go_wp2_with fail
    refine wp_region_noPanic ?_
    refine wp_region_held_drew (S := fun w' => Up W w') (by kernel_rfl) (Up.drew W) (fun hHeld => ?_)
    refine wpAnyH_take (i := 0) (v := ?_) rfl (by kernel_rfl) (by kernel_rfl) (by kernel_rfl) (fun _ _ _ h => h) (Or.inl ⟨by rfl, ?_⟩) (by assumption) ?_
    rotate_left
    · intro w' hSw; clear hSw; go_simp; try (with_reducible rfl)
    change wpAnyH _ _ _ _ _ _ _ (Act.put _ (some 26) _) _
    try (simp only [Act.put, List.setIfInBounds_toArray, List.set_cons_zero, List.set_cons_succ])
    refine wpAnyH_take (i := 1) (v := ?_) rfl (by kernel_rfl) (by kernel_rfl) (by kernel_rfl) (fun _ _ _ h => h) (Or.inl ⟨by rfl, ?_⟩) (by assumption) ?_
    rotate_left
    · intro w' hSw; clear hSw; go_simp; try (with_reducible rfl)
    change wpAnyH _ _ _ _ _ _ _ (Act.put _ (some 27) _) _
    try (simp only [Act.put, List.setIfInBounds_toArray, List.set_cons_zero, List.set_cons_succ])
    refine wpAnyH_take (i := 2) (v := ?_) rfl (by kernel_rfl) (by kernel_rfl) (by kernel_rfl) (fun _ _ _ h => h) (Or.inl ⟨by rfl, ?_⟩) (by assumption) ?_
    rotate_left
    · intro w' hSw; clear hSw; go_simp; try (with_reducible rfl)
    change wpAnyH _ _ _ _ _ _ _ (Act.put _ (some 28) _) _
    try (simp only [Act.put, List.setIfInBounds_toArray, List.set_cons_zero, List.set_cons_succ])
    refine wpAnyH_take (i := 3) (v := ?_) rfl (by kernel_rfl) (by kernel_rfl) (by kernel_rfl) (fun _ _ _ h => h) (Or.inl ⟨by rfl, ?_⟩) (by assumption) ?_
    rotate_left
    · intro w' hS0; go_simp; try (with_reducible rfl)
    change wpAnyH _ _ _ _ _ _ _ (Act.put _ (some 29) _) _
    try (simp only [Act.put, List.setIfInBounds_toArray, List.set_cons_zero, List.set_cons_succ])
    refine wpAnyH_take (i := 4) (v := ?_) rfl (by kernel_rfl) (by kernel_rfl) (by kernel_rfl) (fun _ _ _ h => h) (Or.inl ⟨by rfl, ?_⟩) (by assumption) ?_
    rotate_left
    · intro w' hSw; clear hSw; go_simp; try (with_reducible rfl)
    change wpAnyH _ _ _ _ _ _ _ (Act.put _ (some 30) _) _
    try (simp only [Act.put, List.setIfInBounds_toArray, List.set_cons_zero, List.set_cons_succ])
    refine wpAnyH_take (i := 5) (v := ?_) rfl (by kernel_rfl) (by kernel_rfl) (by kernel_rfl) (fun _ _ _ h => h) (Or.inl ⟨by rfl, ?_⟩) (by assumption) ?_
    rotate_left
    · intro w' hS0; go_simp; try (with_reducible rfl)
    change wpAnyH _ _ _ _ _ _ _ (Act.put _ (some 31) _) _
    try (simp only [Act.put, List.setIfInBounds_toArray, List.set_cons_zero, List.set_cons_succ])
    refine wpAnyH_take (i := 7) (v := ?_) rfl (by kernel_rfl) (by kernel_rfl) (by kernel_rfl) (fun _ _ _ h => h) (Or.inl ⟨by rfl, ?_⟩) (by assumption) ?_
    rotate_left
    · intro w' hSw; clear hSw; go_simp; try (with_reducible rfl)
    change wpAnyH _ _ _ _ _ _ _ (Act.put _ (some 33) _) _
    try (simp only [Act.put, List.setIfInBounds_toArray, List.set_cons_zero, List.set_cons_succ])
    refine wpAnyH_take (i := 8) (v := ?_) rfl (by kernel_rfl) (by kernel_rfl) (by kernel_rfl) (fun _ _ _ h => h) (Or.inl ⟨by rfl, ?_⟩) (by assumption) ?_
    rotate_left
    · intro w' hSw; clear hSw; go_simp; try (with_reducible rfl)
    change wpAnyH _ _ _ _ _ _ _ (Act.put _ (some 34) _) _
    try (simp only [Act.put, List.setIfInBounds_toArray, List.set_cons_zero, List.set_cons_succ])
    refine wpAnyH_take (i := 9) (v := ?_) rfl (by kernel_rfl) (by kernel_rfl) (by kernel_rfl) (fun _ _ _ h => h) (Or.inl ⟨by rfl, ?_⟩) (by assumption) ?_
    rotate_left
    · intro w' hSw; clear hSw; go_simp; try (with_reducible rfl)
    change wpAnyH _ _ _ _ _ _ _ (Act.put _ (some 35) _) _
    try (simp only [Act.put, List.setIfInBounds_toArray, List.set_cons_zero, List.set_cons_succ])
    refine wpAnyH_take (i := 10) (v := ?_) rfl (by kernel_rfl) (by kernel_rfl) (by kernel_rfl) (fun _ _ _ h => h) (Or.inl ⟨by rfl, ?_⟩) (by assumption) ?_
    rotate_left
    · intro w' hS0; go_simp; try (with_reducible rfl)
    change wpAnyH _ _ _ _ _ _ _ (Act.put _ (some 36) _) _
    try (simp only [Act.put, List.setIfInBounds_toArray, List.set_cons_zero, List.set_cons_succ])
    refine wpAnyH_take (i := 11) (v := ?_) rfl (by kernel_rfl) (by kernel_rfl) (by kernel_rfl) (fun _ _ _ h => h) (Or.inl ⟨by rfl, ?_⟩) (by assumption) ?_
    rotate_left
    · intro w' hSw; clear hSw; go_simp; try (with_reducible rfl)
    change wpAnyH _ _ _ _ _ _ _ (Act.put _ (some 37) _) _
    try (simp only [Act.put, List.setIfInBounds_toArray, List.set_cons_zero, List.set_cons_succ])
    refine wpAnyH_take (i := 12) (v := ?_) rfl (by kernel_rfl) (by kernel_rfl) (by kernel_rfl) (fun _ _ _ h => h) (Or.inl ⟨by rfl, ?_⟩) (by assumption) ?_
    rotate_left
    · intro w' hS0; go_simp; try (with_reducible rfl)
    change wpAnyH _ _ _ _ _ _ _ (Act.put _ (some 38) _) _
    try (simp only [Act.put, List.setIfInBounds_toArray, List.set_cons_zero, List.set_cons_succ])
    refine wpAnyH_take (i := 14) (v := ?_) rfl (by kernel_rfl) (by kernel_rfl) (by kernel_rfl) (fun _ _ _ h => h) (Or.inl ⟨by rfl, ?_⟩) (by assumption) ?_
    rotate_left
    · intro w' hSw; clear hSw; go_simp; try (with_reducible rfl)
    change wpAnyH _ _ _ _ _ _ _ (Act.put _ (some 40) _) _
    try (simp only [Act.put, List.setIfInBounds_toArray, List.set_cons_zero, List.set_cons_succ])
    refine wpAnyH_take (i := 15) (v := ?_) rfl (by kernel_rfl) (by kernel_rfl) (by kernel_rfl) (fun _ _ _ h => h) (Or.inl ⟨by rfl, ?_⟩) (by assumption) ?_
    rotate_left
    · intro w' hSw; clear hSw; go_simp; try (with_reducible rfl)
    change wpAnyH _ _ _ _ _ _ _ (Act.put _ (some 41) _) _
    try (simp only [Act.put, List.setIfInBounds_toArray, List.set_cons_zero, List.set_cons_succ])
    refine wpAnyH_take (i := 16) (v := ?_) rfl (by kernel_rfl) (by kernel_rfl) (by kernel_rfl) (fun _ _ _ h => h) (Or.inl ⟨by rfl, ?_⟩) (by assumption) ?_
    rotate_left
    · intro w' hSw; clear hSw; go_simp; try (with_reducible rfl)
    change wpAnyH _ _ _ _ _ _ _ (Act.put _ (some 42) _) _
    try (simp only [Act.put, List.setIfInBounds_toArray, List.set_cons_zero, List.set_cons_succ])
    refine wpAnyH_take (i := 17) (v := ?_) rfl (by kernel_rfl) (by kernel_rfl) (by kernel_rfl) (fun _ _ _ h => h) (Or.inl ⟨by rfl, ?_⟩) (by assumption) ?_
    rotate_left
    · intro w' hS0; go_simp; try (with_reducible rfl)
    change wpAnyH _ _ _ _ _ _ _ (Act.put _ (some 43) _) _
    try (simp only [Act.put, List.setIfInBounds_toArray, List.set_cons_zero, List.set_cons_succ])
    refine wpAnyH_take (i := 18) (v := ?_) rfl (by kernel_rfl) (by kernel_rfl) (by kernel_rfl) (fun _ _ _ h => h) (Or.inl ⟨by rfl, ?_⟩) (by assumption) ?_
    rotate_left
    · intro w' hSw; clear hSw; go_simp; try (with_reducible rfl)
    change wpAnyH _ _ _ _ _ _ _ (Act.put _ (some 44) _) _
    try (simp only [Act.put, List.setIfInBounds_toArray, List.set_cons_zero, List.set_cons_succ])
    refine wpAnyH_take (i := 19) (v := ?_) rfl (by kernel_rfl) (by kernel_rfl) (by kernel_rfl) (fun _ _ _ h => h) (Or.inl ⟨by rfl, ?_⟩) (by assumption) ?_
    rotate_left
    · intro w' hS0; go_simp; try (with_reducible rfl)
    change wpAnyH _ _ _ _ _ _ _ (Act.put _ (some 45) _) _
    try (simp only [Act.put, List.setIfInBounds_toArray, List.set_cons_zero, List.set_cons_succ])
    refine wpAnyH_ready (rs := [6]) (by kernel_rfl) (by simp) ?_
    refine AllReadyH.cons rfl (fun K hK => ?_) AllReadyH.nil
    go_simp
    refine (k1 _ (Up.drew W)).mono ?_
    rintro e W1 ⟨A1, c1, rfl, x1, own1⟩
    have u1 : Up W W1 := Up.trans (Up.drew W) x1
    have v1 : Up W W1 := u1
    refine hK.out _ _ u1 (fun hHeld => ?_)
    clear hK K hHeld
    refine wpAnyH_more (S' := fun w' => Up W1 w') (fun w' h => Up.trans u1 h) _ _ _ _ ?_
    have hHeld := Up.refl W1
    refine wpAnyH_ready (rs := [13]) (by kernel_rfl) (by simp) ?_
    refine AllReadyH.cons rfl (fun K hK => ?_) AllReadyH.nil
    go_simp
    refine (k2 _ v1).mono ?_
    rintro e W2 ⟨A2, c2, rfl, x2, own2⟩
    have u2 : Up W1 W2 := x2
    have v2 : Up W W2 := Up.trans v1 u2
    refine hK.out _ _ u2 (fun hHeld => ?_)
    clear hK K hHeld
    refine wpAnyH_more (S' := fun w' => Up W2 w') (fun w' h => Up.trans u2 h) _ _ _ _ ?_
    have hHeld := Up.refl W2
    refine wpAnyH_ready (rs := [20]) (by kernel_rfl) (by simp) ?_
    refine AllReadyH.cons rfl (fun K hK => ?_) AllReadyH.nil
    go_simp
    refine (k3 _ v2).mono ?_
    rintro e W3 ⟨A3, c3, rfl, x3, own3⟩
    have u3 : Up W2 W3 := x3
    have v3 : Up W W3 := Up.trans v2 u3
    refine hK.out _ _ u3 (fun hHeld => ?_)
    clear hK K hHeld
    refine wpAnyH_more (S' := fun w' => Up W3 w') (fun w' h => Up.trans u3 h) _ _ _ _ ?_
    have hHeld := Up.refl W3
    refine wpAnyH_take (i := 21) (v := ?_) rfl (by kernel_rfl) (by kernel_rfl) (by kernel_rfl) (fun _ _ _ h => h) (Or.inl ⟨by rfl, ?_⟩) (by assumption) ?_
    rotate_left
    · intro w' hSw; clear hSw; go_simp; try (with_reducible rfl)
    change wpAnyH _ _ _ _ _ _ _ (Act.put _ (some 7) _) _
    try (simp only [Act.put, List.setIfInBounds_toArray, List.set_cons_zero, List.set_cons_succ])
    refine wpAnyH_take (i := 22) (v := ?_) rfl (by kernel_rfl) (by kernel_rfl) (by kernel_rfl) (fun _ _ _ h => h) (Or.inl ⟨by rfl, ?_⟩) (by assumption) ?_
    rotate_left
    · intro w' hSw; clear hSw; go_simp; try (with_reducible rfl)
    change wpAnyH _ _ _ _ _ _ _ (Act.put _ (some 8) _) _
    try (simp only [Act.put, List.setIfInBounds_toArray, List.set_cons_zero, List.set_cons_succ])
    refine wpAnyH_take (i := 23) (v := ?_) rfl (by kernel_rfl) (by kernel_rfl) (by kernel_rfl) (fun _ _ _ h => h) (Or.inl ⟨by rfl, ?_⟩) (by assumption) ?_
    rotate_left
    · intro w' hSw; clear hSw; go_simp; try (with_reducible rfl)
    change wpAnyH _ _ _ _ _ _ _ (Act.put _ (some 9) _) _
    try (simp only [Act.put, List.setIfInBounds_toArray, List.set_cons_zero, List.set_cons_succ])
    refine wpAnyH_done (by kernel_rfl) ?_ _
    refine NoPanic.normal ?_
    clear hHeld
    obtain ⟨e1, rfl, b1, lt1, row1⟩ := own1.slot (by omega)
    obtain ⟨e2, rfl, b2, lt2, row2⟩ := own2.slot (by omega)
    obtain ⟨e3, rfl, b3, lt3, row3⟩ := own3.slot (by omega)
    have hst : ApRel w l.length A0 R e1 L1.length c1 e2 L2.length c2 e3 L3.length c3 (.int .i64 0) W3 := by
      have r1 := own1.below (B := 0) (u2.trans u3).b
      have r2 := own2.below (B := 0) u3.b
      obtain ⟨_, q1, _, _, w1⟩ := r1.slot (by omega)
      obtain ⟨_, q2, _, _, w2⟩ := r2.slot (by omega)
      injection q1 with q1; injection q1 with q1; subst q1
      injection q2 with q2; injection q2 with q2; subst q2
      exact ⟨0, by omega, rfl, ⟨_, _, w1⟩, ⟨_, _, w2⟩, ⟨_, _, row3⟩, v3.rd hr0, step_below hbW v3.b⟩
    have hA0 : ∀ b off, A0 = some ⟨b, off, none⟩ → b < W.heap.size := fun b off e => (lt0 b (by rw [e]; rfl)).2
    have s1 := u1.b.size
    have s2 := u2.b.size
    have s3 := u3.b.size
    have n1 : W.heap.size ≤ e1 := b1
    have n2 : e1 < e2 := by omega
    have n3 : e2 < e3 := by omega
    have hwW := hbW.size
    have HA0 := Lib.hid hA0
    have Hst := Lib.hid hst
    clear own1 own2 own3 row1 row2 row3 hst lt1 lt2 lt3 b1 b2 b3 s1 s2 s3 k1 k2 k3 ld0 ld1 ld2 hA0 lt0 x1 x2 x3
    go_wp2_with fail
    go_loopw [10] (ApRel w l.length A0 R e1 L1.length c1 e2 L2.length c2 e3 L3.length c3) (fun i _ => l.length - (intOf i).toNat)
    case atStart => exact Hst.out
    case round =>
      clear Hst
      obtain ⟨k, hk, rfl, r1, r2, r3, rR, hb⟩ := hrel
      by_cases hlt : k < l.length
      · obtain ⟨⟨x1, d1⟩, z1⟩ := r1.cell (j := k) (by omega)
        obtain ⟨⟨x2, d2⟩, z2⟩ := (r2.other (by omega : e2 ≠ e1) k (.int .u8 0)).cell (j := k) (by omega)
        obtain ⟨⟨x3, d3⟩, z3⟩ := ((r3.other (by omega : e3 ≠ e1) k (.int .u8 0)).other (by omega : e3 ≠ e2) k (.int .u8 1)).cell (j := k) (by omega)
        have i1 : (k : Int) < (L1.length : Int) := by omega
        have i2 : (k : Int) < (L2.length : Int) := by omega
        have i3 : (k : Int) < (L3.length : Int) := by omega
        go_wp2_with fail
        go_roundw
        case rel =>
          refine ⟨k + 1, by omega, by go_num, ((r1.set k _).other (by omega) k _).other (by omega) k _, ((r2.other (by omega) k _).set k _).other (by omega) k _, ((r3.other (by omega) k _).other (by omega) k _).set k _, ?_, ?_⟩
          · exact ((rR.other (fun b off e => by have := HA0.out b off e; omega) k _).other (fun b off e => by have := HA0.out b off e; omega) k _).other (fun b off e => by have := HA0.out b off e; omega) k _
          · exact ((hb.setCell (by show w.heap.size ≤ e1; omega) _).setCell (by show w.heap.size ≤ e2; omega) _).setCell (by show w.heap.size ≤ e3; omega) _
        case measure => simp [intOf]; omega
      · have cv1 := str_of wr A0 c0 R rR
        go_wp2_with fail
        refine (awake_any _).mono ?_
        rintro e w5 ⟨rfl, hb5⟩
        go_wp2_with fail
        go_ret
        exact ⟨rfl, step_below hb hb5⟩
  · go_enter Try.func5, Try.ntmps5
    go_wp2_with fail
    refine (few_no _ _ _ _ _ _ _ _ (by simpa [ByteArray.size] using hf)).mono ?_
    rintro e w' ⟨rfl, rfl⟩
    go_wp2_with fail
    refine (awake_any _).mono ?_
    rintro e w' ⟨rfl, hb⟩
    go_wp2_with fail
    go_ret
    exact ⟨rfl, step_below hbw hb⟩
end Go.Proofs.Ytklimplhlhcajaa
