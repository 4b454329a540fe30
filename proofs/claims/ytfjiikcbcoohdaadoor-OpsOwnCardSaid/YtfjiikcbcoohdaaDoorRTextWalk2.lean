/-
  The walks of the reference's Points and Text. Conditions: none beyond the sizes.
-/
import Derived.Test.YtfjiikcbcoohdaaDoorRTextWalk
namespace Go.Proofs.YtfjiikcbcoohdaaDoor
open Go.RowKit
set_option linter.unusedVariables false

theorem first_good (w : World) (B : ByteArray) (hs : B.size ≤ 1000000) (a : Nat) (ha : a < B.size) (hg : goodR (B.data.toList.drop a) = true) : Calls Tryd.prog 79 #[.string B, .int .i64 a] w
    fun e w' => e = .returned (.tuple #[.int .i64 (ptR (B.data.toList.drop a) : Int), .int .i64 (widR (B.data.toList.drop a) : Int)]) ∧ Below w.heap.size w w' := by
  have h := first_any w B hs a ha _ rfl
  unfold RetFirst at h
  rw [hg, if_pos rfl, if_pos rfl] at h
  exact h
theorem first_no (w : World) (B : ByteArray) (hs : B.size ≤ 1000000) (a : Nat) (ha : a < B.size) (hg : goodR (B.data.toList.drop a) = false) : Calls Tryd.prog 79 #[.string B, .int .i64 a] w
    fun e w' => e = .returned (.tuple #[.int .i64 (-1), .int .i64 0]) ∧ Below w.heap.size w w' := by
  have h := first_any w B hs a ha _ rfl
  unfold RetFirst at h
  rw [hg, if_neg (by simp), if_neg (by simp)] at h
  exact h
def PtsRel (w : World) (l : List UInt8) (vo va : Value) (wr : World) : Prop :=
  ∃ (pos : Nat) (A : Option Addr) (c : Nat) (acc : List Int), pos ≤ l.length ∧ acc.length ≤ pos ∧ va = .int .i64 pos ∧ vo = .slice A acc.length c ∧
    Hid (ptsOf l = (ptsOf (l.drop pos)).map (acc ++ ·)) ∧ Own wr w.heap.size 3 1 (.slice A acc.length c) acc.length (acc.map I64) ∧ Below w.heap.size w wr
theorem pts_step {l acc : List UInt8} {a : List Int} {pos : Nat} (hne : l.drop pos ≠ []) (hg : goodR (l.drop pos) = true) (h : ptsOf l = (ptsOf (l.drop pos)).map (a ++ ·)) :
    ptsOf l = (ptsOf (l.drop (pos + widR (l.drop pos)))).map ((a ++ [(ptR (l.drop pos) : Int)]) ++ ·) := by
  rw [h, pts_good hne hg, List.drop_drop]
  cases ptsOf (l.drop (pos + widR (l.drop pos))) <;> simp
def RetPtl (ps : List Int) (w : World) (e : Ending) (w' : World) : Prop := ∃ A c, e = .returned (.tuple #[.slice A ps.length c, .bool true]) ∧ Rd w' A (ps.map I64) ∧ Below w.heap.size w w'

set_option maxRecDepth 100000 in
set_option maxHeartbeats 4000000 in
theorem rpoints_yes (w : World) (B : ByteArray) (hs : B.size ≤ 1000000) (ps : List Int) (hps : ptsOf B.data.toList = some ps) : Calls Tryd.prog 73 #[.string B] w (RetPtl ps w) := by
  obtain ⟨i0, hi0, hz0, hz1, hz2⟩ := info_parts info_int
  have Hl := Lib.hid (show B.data.toList.length = B.size from Array.length_toList)
  have HP := Lib.hid hps
  clear hps
  go_enter Tryd.func73, Tryd.ntmps73
  go_wp2
  go_loopw [4, 5] (PtsRel w B.data.toList) (fun _ a _ => B.size - (intOf a).toNat)
  case atStart => exact ⟨0, none, 0, [], by omega, by simp, rfl, rfl, by rw [Hid, List.drop_zero]; cases ptsOf B.data.toList <;> simp, Own.nil _ _ _ _, Below.refl _ _⟩
  case round =>
    obtain ⟨pos, A, c, acc, h1, h2, rfl, rfl, h3, hown, hb⟩ := hrel
    rw [Hl.out] at h1
    by_cases hlt : pos < B.size
    · have p1 : decide ((pos : Int) < (B.size : Int)) = true := decide_eq_true (by omega)
      have hne := (drop_at hlt).1
      have hg : goodR (B.data.toList.drop pos) = true := by
        rcases hg : goodR (B.data.toList.drop pos) with _ | _
        · exfalso
          have := h3.out
          rw [HP.out, pts_bad hne hg] at this
          cases this
        · rfl
      have hw := widR_pos (B.data.toList.drop pos)
      have hwl := ((goodR_iff _).1 hg).1
      rw [List.length_drop, Hl.out] at hwl
      have H3 := Lib.hid (pts_step (acc := []) hne hg h3.out)
      have k1 := fun w' => first_good w' B hs pos hlt hg
      clear hne hg h3
      generalize widR (B.data.toList.drop pos) = n at *
      generalize ptR (B.data.toList.drop pos) = P at *
      have p2 : ((n : Int) == 0) = false := beq_eq_false_iff_ne.2 (by omega)
      go_wp2_with fail
      refine (k1 _).mono ?_
      rintro e w1 ⟨rfl, hb1⟩
      have hown1 := hown.below (B := 0) hb1
      have hb1' := hb.trans (hb1.mono hb.size)
      clear k1 hown hb hb1
      go_wp2_with (first
        | (at_builtin
           refine wpList_append_map _ I64 I64_one rfl (.tmp 20) (.tmp 22) _ rfl w.heap.size 3 i0 _ 8 Tryd.underlying54 hi0 hz0 hz1 hz2 rfl A c acc rfl (hown1.alloc _) (some ⟨w1.heap.size, 0, none⟩) 1 [(P : Int)] rfl (Rd.new _ _ _ _) (by simp only [maxLen, List.length_cons, List.length_nil]; omega) (by simp only [List.length_cons, List.length_nil]; omega) (by simp; have := hb1'.size; omega) ?_
           intro A2 c2 l2 w2 e2 hown2 hr2 hg2 hb2 hat2)
        | fail)
      have hl2 : l2.length = acc.length + 1 := by rw [e2.out]; simp
      go_roundw
      case rel => exact ⟨pos + n, A2, c2, l2, by rw [Hl.out]; omega, by omega, by go_num, rfl, by rw [e2.out]; exact H3, hown2, (hb1'.alloc hb1'.size _).trans hb2⟩
      case measure => simp [intOf]; omega
    · obtain rfl : pos = B.size := by omega
      have p1 : decide ((B.size : Int) < (B.size : Int)) = false := by simp
      have he : acc = ps := by
        have := h3.out
        rw [HP.out, List.drop_of_length_le (by rw [Hl.out]; omega), pts_nil] at this
        simpa using this.symm
      subst he
      go_wp2
      exact bodyPost_ret (v := .tuple #[.slice A acc.length c, .bool true]) (by simp [results, Tryd.results73, go_sem]) rfl ⟨A, c, rfl, hown.rd', hb⟩

set_option maxRecDepth 100000 in
set_option maxHeartbeats 4000000 in
theorem rpoints_no (w : World) (B : ByteArray) (hs : B.size ≤ 1000000) (hps : ptsOf B.data.toList = none) : Calls Tryd.prog 73 #[.string B] w (RetPts false w) := by
  obtain ⟨i0, hi0, hz0, hz1, hz2⟩ := info_parts info_int
  have Hl := Lib.hid (show B.data.toList.length = B.size from Array.length_toList)
  have HP := Lib.hid hps
  clear hps
  go_enter Tryd.func73, Tryd.ntmps73
  go_wp2
  go_loopw [4, 5] (PtsRel w B.data.toList) (fun _ a _ => B.size - (intOf a).toNat)
  case atStart => exact ⟨0, none, 0, [], by omega, by simp, rfl, rfl, by rw [Hid, List.drop_zero]; cases ptsOf B.data.toList <;> simp, Own.nil _ _ _ _, Below.refl _ _⟩
  case round =>
    obtain ⟨pos, A, c, acc, h1, h2, rfl, rfl, h3, hown, hb⟩ := hrel
    rw [Hl.out] at h1
    by_cases hlt : pos < B.size
    · have p1 : decide ((pos : Int) < (B.size : Int)) = true := decide_eq_true (by omega)
      have hne := (drop_at hlt).1
      rcases hg : goodR (B.data.toList.drop pos) with _ | _
      · have k1 := fun w' => first_no w' B hs pos hlt hg
        clear hne hg h3
        go_wp2_with fail
        refine (k1 _).mono ?_
        rintro e w1 ⟨rfl, hb1⟩
        have hb1' := hb.trans (hb1.mono hb.size)
        clear k1
        go_wp2_with fail
        exact bodyPost_ret (v := .tuple #[.slice none 0 0, .bool false]) (by simp [results, Tryd.results73, go_sem]) rfl ⟨⟨_, _, _, rfl⟩, hb1'⟩
      · have hw := widR_pos (B.data.toList.drop pos)
        have hwl := ((goodR_iff _).1 hg).1
        rw [List.length_drop, Hl.out] at hwl
        have H3 := Lib.hid (pts_step (acc := []) hne hg h3.out)
        have k1 := fun w' => first_good w' B hs pos hlt hg
        clear hne hg h3
        generalize widR (B.data.toList.drop pos) = n at *
        generalize ptR (B.data.toList.drop pos) = P at *
        have p2 : ((n : Int) == 0) = false := beq_eq_false_iff_ne.2 (by omega)
        go_wp2_with fail
        refine (k1 _).mono ?_
        rintro e w1 ⟨rfl, hb1⟩
        have hown1 := hown.below (B := 0) hb1
        have hb1' := hb.trans (hb1.mono hb.size)
        clear k1 hown hb hb1
        go_wp2_with (first
          | (at_builtin
             refine wpList_append_map _ I64 I64_one rfl (.tmp 20) (.tmp 22) _ rfl w.heap.size 3 i0 _ 8 Tryd.underlying54 hi0 hz0 hz1 hz2 rfl A c acc rfl (hown1.alloc _) (some ⟨w1.heap.size, 0, none⟩) 1 [(P : Int)] rfl (Rd.new _ _ _ _) (by simp only [maxLen, List.length_cons, List.length_nil]; omega) (by simp only [List.length_cons, List.length_nil]; omega) (by simp; have := hb1'.size; omega) ?_
             intro A2 c2 l2 w2 e2 hown2 hr2 hg2 hb2 hat2)
          | fail)
        have hl2 : l2.length = acc.length + 1 := by rw [e2.out]; simp
        go_roundw
        case rel => exact ⟨pos + n, A2, c2, l2, by rw [Hl.out]; omega, by omega, by go_num, rfl, by rw [e2.out]; exact H3, hown2, (hb1'.alloc hb1'.size _).trans hb2⟩
        case measure => simp [intOf]; omega
    · obtain rfl : pos = B.size := by omega
      exfalso
      have := h3.out
      rw [HP.out, List.drop_of_length_le (by rw [Hl.out]; omega), pts_nil] at this
      cases this

def RTextRel (ps : List Int) (vi : Value) : Prop := ∃ k : Nat, k ≤ ps.length ∧ vi = .int .i64 k ∧ Hid ((ps.take k).any ctlI = false)
theorem anyI_take {l : List Int} {k : Nat} (hk : k < l.length) : (l.take (k + 1)).any ctlI = ((l.take k).any ctlI || ctlI l[k]) := by
  rw [List.take_succ_eq_append_getElem hk, List.any_append, List.any_cons, List.any_nil, Bool.or_false]
theorem pts_len : ∀ (f : Nat) (l : List UInt8) (ps : List Int), ptsGo f l = some ps → ps.length ≤ f := by
  intro f
  induction f with
  | zero => intro l ps h; simp [ptsGo] at h; subst h; simp
  | succ f ih =>
    intro l ps h
    rw [ptsGo] at h
    split at h
    · injection h with h; subst h; simp
    · split at h
      · obtain ⟨qs, hq, rfl⟩ := Option.map_eq_some_iff.1 h
        have := ih _ _ hq
        simp; omega
      · cases h
set_option maxRecDepth 100000 in
set_option maxHeartbeats 4000000 in
theorem rtextB_any (w : World) (B : ByteArray) (hs : B.size ≤ maxLen) : Calls Tryd.prog 61 #[.string B] w (RetInt (textE B.data.toList) w) := by
  unfold maxLen at hs
  have hsz : B.data.toList.length = B.size := Array.length_toList
  by_cases h0 : 200 < B.size
  · have H := Lib.hid (textE_long (s := B.data.toList) (by omega))
    have p0 : decide (200 < (B.size : Int)) = true := decide_eq_true (by omega)
    go_enter Tryd.func61, Tryd.ntmps61
    go_wp2
    go_ret
    exact ⟨by rw [H.out]; rfl, Below.refl _ _⟩
  · have p0 : decide (200 < (B.size : Int)) = false := decide_eq_false (by omega)
    have hv := pts_some B.data.toList
    rcases hps : ptsOf B.data.toList with _ | ps
    · rw [hps] at hv
      have H := Lib.hid (textE_form (s := B.data.toList) (by omega) hv.symm)
      have kP : ∀ w', Calls Tryd.prog 73 #[.string B] w' (RetPts false w') := fun w' => rpoints_no w' B (by omega) hps
      clear hv hps
      go_enter Tryd.func61, Tryd.ntmps61
      go_wp2_with fail
      refine (kP _).mono ?_
      rintro e w1 ⟨⟨A, n, c, rfl⟩, hb1⟩
      go_wp2_with fail
      go_ret
      exact ⟨by rw [H.out]; rfl, hb1⟩
    · rw [hps] at hv
      have hctl := pts_ctl _ _ _ (Nat.le_refl _) hps
      have hpl := pts_len _ _ _ hps
      rw [hsz] at hpl
      have H := Lib.hid (fun hc => textE_ok (s := B.data.toList) (by omega) hv.symm (hctl.symm.trans hc))
      have H' := Lib.hid (fun hc => textE_ctl (s := B.data.toList) (by omega) (hctl.symm.trans hc))
      have kP : ∀ w', Calls Tryd.prog 73 #[.string B] w' (RetPtl ps w') := fun w' => rpoints_yes w' B (by omega) ps hps
      clear hv hps hsz hctl
      go_enter Tryd.func61, Tryd.ntmps61
      go_wp2_with fail
      refine (kP _).mono ?_
      rintro e w1 ⟨A, c, rfl, hr, hb1⟩
      go_wp2_with fail
      go_loop [5] (RTextRel ps) (fun i => ps.length - (intOf i).toNat)
      case atStart => exact ⟨0, by omega, rfl, by rw [Hid]; rfl⟩
      case round =>
        obtain ⟨k, hk, rfl, hK⟩ := hrel
        by_cases hlt : k < ps.length
        · have p1 : decide ((k : Int) < (ps.length : Int)) = true := decide_eq_true (by omega)
          have HA := Lib.hid (anyI_take hlt)
          have HB : Hid (ctlI ps[k] = true → ps.any ctlI = true) := fun h => List.any_eq_true.2 ⟨_, List.getElem_mem hlt, h⟩
          obtain ⟨b, off, rfl, hb, hck⟩ := hr.at64 hlt
          generalize ps[k] = x at *
          by_cases c1 : x < 32
          · have q1 : decide (x < 32) = true := decide_eq_true c1
            have hc : ctlI x = true := by unfold ctlI; simp [c1]
            clear c1
            go_wp2
            go_ret
            exact ⟨by rw [H'.out (HB.out hc)]; rfl, hb1⟩
          · have q1 : decide (x < 32) = false := decide_eq_false c1
            by_cases c2 : x = 127
            · have q2 : (x == 127) = true := beq_iff_eq.2 c2
              have hc : ctlI x = true := by unfold ctlI; simp [c2]
              have c2' := Lib.hid c2
              clear c2
              go_wp2
              go_ret
              exact ⟨by rw [H'.out (HB.out hc)]; rfl, hb1⟩
            · have q2 : (x == 127) = false := beq_eq_false_iff_ne.2 c2
              have hc : Hid (ctlI x = false) := by rw [Hid]; unfold ctlI; simp [c2]; omega
              go_wp2
              go_round
              case rel => exact ⟨k + 1, by omega, by go_num, by rw [Hid, HA.out, hK.out, hc.out]; rfl⟩
              case measure => simp [intOf]; omega
        · have p1 : decide ((k : Int) < (ps.length : Int)) = false := decide_eq_false (by omega)
          have hc : ps.any ctlI = false := by
            have := hK.out
            rwa [List.take_of_length_le (by omega)] at this
          have HH := Lib.hid (H.out hc)
          clear hc
          go_wp2
          go_ret
          exact ⟨by rw [HH.out]; rfl, hb1⟩
theorem rtext_any (w : World) (s : List UInt8) (hs : s.length ≤ maxLen) : Calls Tryd.prog 61 #[.string ⟨s.toArray⟩] w (RetInt (textE s) w) :=
  rtextB_any w ⟨s.toArray⟩ (by simpa [ByteArray.size] using hs)
end Go.Proofs.YtfjiikcbcoohdaaDoor
