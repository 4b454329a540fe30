/-
  The walks of All of layer 6 and of the reference. Conditions: at most a hundred thousand bytes.
-/
import Derived.Test.YthjmdfimnbmbfaaFrameAwake
import Derived.Test.YthjmdfimnbmbfaaFrameOpen
namespace Go.Proofs.Ythjmdfimnbmbfaa
open Go.RowKit
set_option linter.unusedVariables false

theorem info_sl : (Try.prog.info? 22).map (fun i => (i.zero, i.size, i.bytes)) = some (some (.slice none 0 0), 1, 24) := by kernel_rfl
/-- a content in memory: its address, its bytes, its capacity -/
structure CT where
  A : Option Addr
  C : List UInt8
  c : Nat
def CTv (x : CT) : Value := .slice x.A x.C.length x.c
theorem CTv_one (x : CT) : (CTv x).oneCell' = true := rfl
def kI (p : Int × List UInt8) : Value := .int .i64 p.1
theorem kI_one (p : Int × List UInt8) : (kI p).oneCell' = true := rfl
def Sep (u v : Value) : Prop := ∀ k, u.ownBlock = some k → v.ownBlock ≠ some k
theorem Sep.none {u v : Value} (h : u.ownBlock = none) : Sep u v := fun k hk => by rw [h] at hk; cases hk
def Lies (w : World) (vk vc : Value) (x : CT) : Prop := Rd w x.A (x.C.map U8) ∧ Apart x.A (x.C.map U8) vk ∧ Apart x.A (x.C.map U8) vc
/-- kinds in vk, contents in vc, both the call's own, and the bytes of ys lie apart from both -/
structure AllSt (base : Nat) (w : World) (vk vc : Value) (ps : List (Int × List UInt8)) (xs ys : List CT) : Prop where
  ok : Own w base 3 1 vk ps.length (ps.map kI)
  oc : Own w base 22 1 vc xs.length (xs.map CTv)
  sep : Sep vk vc
  co : ∀ x ∈ ys, Lies w vk vc x
theorem AllSt.up {base : Nat} {w w' : World} {vk vc : Value} {ps : List (Int × List UInt8)} {xs ys : List CT} (h : AllSt base w vk vc ps xs ys) (hb : Below w.heap.size w w') : AllSt base w' vk vc ps xs ys :=
  ⟨h.ok.below (B := 0) hb, h.oc.below (B := 0) hb, h.sep, fun x hx => ⟨(h.co x hx).1.below hb, (h.co x hx).2⟩⟩
theorem AllSt.alloc {base : Nat} {w : World} {vk vc : Value} {ps : List (Int × List UInt8)} {xs ys : List CT} (h : AllSt base w vk vc ps xs ys) (o : Obj) : AllSt base (w.alloc o) vk vc ps xs ys :=
  h.up ((Below.refl _ _).alloc (Nat.le_refl _) o)
theorem AllSt.k {base : Nat} {w w' : World} {vk vc vk' : Value} {ps ps' : List (Int × List UInt8)} {xs ys : List CT} (h : AllSt base w vk vc ps xs ys) (ho : Own w' base 3 1 vk' ps'.length (ps'.map kI)) (g : Gr base vk w vk' w') : AllSt base w' vk' vc ps' xs ys := by
  refine ⟨ho, ?_, ?_, fun x hx => ?_⟩
  · refine h.oc.kept g.gb ?_
    rcases hv : vc.ownBlock with _ | k
    · exact .inl rfl
    · exact .inr fun e => h.sep k e.symm hv
  · intro k hk
    rcases g.fr k hk with h1 | h1
    · exact h.sep k h1
    · intro hc
      have := (h.oc.lt k hc).2
      omega
  · obtain ⟨h1, h2, h3⟩ := h.co x hx
    exact ⟨g.rd h1 h2, g.apart h1 h2, h3⟩
theorem AllSt.c {base : Nat} {w w' : World} {vk vc vc' : Value} {ps : List (Int × List UInt8)} {xs xs' ys : List CT} (h : AllSt base w vk vc ps xs ys) (ho : Own w' base 22 1 vc' xs'.length (xs'.map CTv)) (g : Gr base vc w vc' w') : AllSt base w' vk vc' ps xs' ys := by
  refine ⟨?_, ho, ?_, fun x hx => ?_⟩
  · refine h.ok.kept g.gb ?_
    rcases hv : vk.ownBlock with _ | k
    · exact .inl rfl
    · exact .inr fun e => h.sep k hv e.symm
  · intro k hk hc
    rcases g.fr k hc with h1 | h1
    · exact h.sep k hk h1
    · have := (h.ok.lt k hk).2
      omega
  · obtain ⟨h1, h2, h3⟩ := h.co x hx
    exact ⟨g.rd h1 h3, h2, g.apart h1 h3⟩
theorem AllSt.more {base : Nat} {w : World} {vk vc : Value} {ps : List (Int × List UInt8)} {xs ys : List CT} {x : CT} (h : AllSt base w vk vc ps xs ys) (hx : Lies w vk vc x) : AllSt base w vk vc ps xs (ys ++ [x]) :=
  ⟨h.ok, h.oc, h.sep, fun y hy => by
    rcases List.mem_append.1 hy with h1 | h1
    · exact h.co y h1
    · rw [List.mem_singleton.1 h1]; exact hx⟩
/-- what Open returned lies apart from a slice of the call's own -/
theorem Where.apart {A0 A : Option Addr} {w0 w : World} {l0 l : List Value} {base : Nat} {e : TypeId} {size n : Nat} {v : Value} {xs : List Value} (h : Where A0 A w) (h0 : l0 ≠ []) (hr : Rd w0 A0 l0) (hb : w0.heap.size ≤ base) (ho : Own w base e size v n xs) : Apart A l v := by
  intro _ b off eA hk
  have h1 := ho.lt b hk
  rcases h _ eA with ⟨y, e1, e2⟩ | h2
  · obtain ⟨b', off', e', hb', _⟩ := hr h0
    rw [e1] at e'
    injection e' with e'
    subst e'
    have e2 : b = b' := e2
    omega
  · have h2 : w.heap.size ≤ b := h2
    omega

def contents (xs : List CT) : List (List UInt8) := xs.map (·.C)
theorem all_next {b : List UInt8} {q : Int} (h0 : 0 ≤ q) (he : opE b q = 0) (ps : List (Int × List UInt8)) {R : List (Int × List UInt8) × Int} (h : R = (ps ++ (allF b (b.length + 1) q).1, (allF b (b.length + 1) q).2)) :
    R = ((ps ++ [(opK b q, opC b q)]) ++ (allF b (b.length + 1) (opT b q)).1, (allF b (b.length + 1) (opT b q)).2) := by
  have hn := op_next he
  have hm := allF_more b b.length (b.length + 1) (opT b q) (by omega) (by omega) (by omega)
  rw [h, hm, allF, if_pos he]
  simp
theorem all_stop {b : List UInt8} {q : Int} (he : opE b q ≠ 0) (ps : List (Int × List UInt8)) {R : List (Int × List UInt8) × Int} (h : R = (ps ++ (allF b (b.length + 1) q).1, (allF b (b.length + 1) q).2)) :
    R = (ps, q) := by
  rw [h, allF, if_neg he]
  simp
/-- the call returns the kinds and the contents of ps, and the index n -/
def RetAll (ps : List (Int × List UInt8)) (n : Int) (w : World) (en : Ending) (w' : World) : Prop :=
  ∃ (Ak : Option Addr) (ck : Nat) (Ac : Option Addr) (cc : Nat) (xs : List CT), en = .returned (.tuple #[.slice Ak ps.length ck, .slice Ac xs.length cc, .int .i64 n]) ∧ Rd w' Ak (ps.map kI) ∧ Rd w' Ac (xs.map CTv) ∧ (∀ x ∈ xs, Rd w' x.A (x.C.map U8)) ∧
    contents xs = ps.map (·.2) ∧ Below w.heap.size w w'
theorem retAll {R : List (Int × List UInt8) × Int} {ps : List (Int × List UInt8)} {n : Int} (e : R = (ps, n)) {w w' : World} {Ak Ac : Option Addr} {ck cc : Nat} {xs : List CT} (h : AllSt w.heap.size w' (.slice Ak ps.length ck) (.slice Ac xs.length cc) ps xs xs) (hc : contents xs = ps.map (·.2)) (hb : Below w.heap.size w w') :
    RetAll R.1 R.2 w (.returned (.tuple #[.slice Ak ps.length ck, .slice Ac xs.length cc, .int .i64 n])) w' := by
  subst e
  exact ⟨Ak, ck, Ac, cc, xs, rfl, h.ok.rd', h.oc.rd', fun x hx => (h.co x hx).1, hc, hb⟩
def AllRel (w : World) (b : List UInt8) (vk vc vi : Value) (wr : World) : Prop :=
  ∃ (q : Int) (ps : List (Int × List UInt8)) (xs : List CT) (Ak : Option Addr) (ck : Nat) (Ac : Option Addr) (cc : Nat), vi = .int .i64 q ∧ vk = .slice Ak ps.length ck ∧ vc = .slice Ac xs.length cc ∧ 0 ≤ q ∧ q ≤ b.length ∧ ps.length ≤ q ∧ xs.length ≤ q ∧
    AllSt w.heap.size wr (.slice Ak ps.length ck) (.slice Ac xs.length cc) ps xs xs ∧ contents xs = ps.map (·.2) ∧ Hid (allR b = (ps ++ (allF b (b.length + 1) q).1, (allF b (b.length + 1) q).2)) ∧ Below w.heap.size w wr

set_option maxRecDepth 20000 in
set_option maxHeartbeats 4000000 in
theorem all_any (w : World) (A : Option Addr) (c : Nat) (b : List UInt8) (hbc : b.length ≤ c) (h : Rd w A (b.map U8)) (hl : b.length ≤ 100000) :
    Calls Try.prog 18 #[.slice A b.length c] w (RetAll (allR b).1 (allR b).2 w) := by
  obtain ⟨i0, hi0, hz0, hz1, hz2⟩ := info_parts info_int
  obtain ⟨s0, hs0, hy0, hy1, hy2⟩ := info_parts info_sl
  go_enter Try.func18, Try.ntmps18
  go_wp2
  go_loopw [5, 6, 7] (AllRel w b) (fun _ _ i _ => b.length + 1 - (intOf i).toNat)
  case atStart => exact ⟨0, [], [], none, 0, none, 0, rfl, rfl, rfl, by omega, by omega, by simp, by simp, ⟨Own.nil _ _ _ _, Own.nil _ _ _ _, Sep.none rfl, fun x hx => by cases hx⟩, rfl, rfl, Below.refl _ _⟩
  case round =>
    obtain ⟨q, ps, xs, Ak, ck, Ac, cc, rfl, rfl, rfl, hq0, hq1, hq2, hq3, hst, hcs, HR, hb⟩ := hrel
    have hO := open_anyW wr A c b hbc (h.below hb) (by omega) q (by omega) (by omega)
    by_cases hE : opE b q = 0
    · have hn := op_next hE
      have HN := Lib.hid (all_next hq0 hE ps HR.out)
      unfold RetOpenW at hO
      rw [hE] at hO
      have hne : b.map U8 ≠ [] := by
        intro e
        have e' : b = [] := by simpa using e
        rw [e'] at hn
        simp at hn
        omega
      have HNE := Lib.hid hne
      have Hcs := Lib.hid hcs
      clear HR hne hcs
      generalize opK b q = K at *
      generalize opC b q = C at *
      generalize opT b q = T at *
      go_wp2_with fail
      refine hO.mono ?_
      rintro e w1 ⟨A1, c1, rfl, hr1, hc1, hb1, hwh⟩
      have hL : Lies w1 (.slice Ak ps.length ck) (.slice Ac xs.length cc) ⟨A1, C, c1⟩ := ⟨hr1, hwh.apart HNE.out h (Nat.le_refl _) hst.ok, hwh.apart HNE.out h (Nat.le_refl _) hst.oc⟩
      have hst1 := Lib.hid ((hst.up hb1).more hL)
      have hb1 := step_below hb hb1
      clear hO hst hr1 hwh HNE hL
      go_wp2_with (first
        | (at_builtin
           refine wpList_append_map _ kI kI_one rfl (.tmp 25) (.tmp 27) _ rfl w.heap.size 3 i0 _ 8 Try.underlying37 hi0 hz0 hz1 hz2 rfl Ak ck ps rfl (hst1.out.alloc _).ok (some ⟨w1.heap.size, 0, none⟩) 1 [(K, C)] rfl (Rd.new _ _ _ _) (by simp only [maxLen, List.length_cons, List.length_nil]; omega) (by simp only [List.length_cons, List.length_nil]; omega) (by simp; have := hb1.size; omega) ?_
           intro A2 c2 ps2 w2 e2 hown2 hr2 hg2 hb2 hat2
           have hst2 := Lib.hid ((hst1.out.alloc _).k hown2 ⟨hg2, hat2, hb2⟩)
           have hbw2 := (hb1.alloc hb1.size _).trans hb2
           clear hst1 hb1 hown2 hr2 hg2 hat2 hb2)
        | (at_builtin
           refine wpList_append_map _ CTv CTv_one rfl (.tmp 29) (.tmp 31) _ rfl w.heap.size 22 s0 _ 24 Try.underlying38 hs0 hy0 hy1 hy2 rfl Ac cc xs rfl (hst2.out.alloc _).oc (some ⟨w2.heap.size, 0, none⟩) 1 [⟨A1, C, c1⟩] rfl (Rd.new _ _ _ _) (by simp only [maxLen, List.length_cons, List.length_nil]; omega) (by simp only [List.length_cons, List.length_nil]; omega) (by simp; have := hbw2.size; omega) ?_
           intro A3 c3 xs3 w3 e3 hown3 hr3 hg3 hb3 hat3
           have hst3 := Lib.hid ((hst2.out.alloc _).c hown3 ⟨hg3, hat3, hb3⟩)
           have hbw3 := (hbw2.alloc hbw2.size _).trans hb3
           clear hst2 hown3 hr3 hg3 hat3 hb3)
        | fail)
      go_roundw
      case rel =>
        have e2' := e2.out
        have e3' := e3.out
        subst e2' e3'
        exact ⟨T, _, _, A2, c2, A3, c3, rfl, rfl, rfl, by omega, by omega, by rw [List.length_append]; simp; omega, by rw [List.length_append]; simp; omega, hst3.out, by rw [contents, List.map_append, List.map_append]; have := Hcs.out; unfold contents at this; rw [this]; rfl, HN.out, hbw3⟩
      case measure => simp [intOf]; omega
    · have HN := Lib.hid (all_stop hE ps HR.out)
      have ne : (opE b q == 0) = false := beq_eq_false_iff_ne.2 hE
      have ne' : (opE b q != 0) = true := bne_iff_ne.2 hE
      unfold RetOpenW at hO
      have Hcs := Lib.hid hcs
      clear HR hcs
      generalize opK b q = K at *
      generalize opC b q = C at *
      generalize opT b q = T at *
      generalize opE b q = er at *
      go_wp2_with fail
      refine hO.mono ?_
      rintro e w1 ⟨A1, c1, rfl, hr1, hc1, hb1, hwh⟩
      have hst1 := Lib.hid (hst.up hb1)
      have hb1 := step_below hb hb1
      clear hO hst hr1 hwh
      go_wp2_with fail
      exact bodyPost_ret (v := .tuple #[.slice Ak ps.length ck, .slice Ac xs.length cc, .int .i64 q]) (by simp [results, Try.results18, go_sem]) rfl (retAll HN.out hst1.out Hcs.out hb1)

set_option maxRecDepth 20000 in
set_option maxHeartbeats 4000000 in
theorem rall_any (w : World) (A : Option Addr) (c : Nat) (b : List UInt8) (hbc : b.length ≤ c) (h : Rd w A (b.map U8)) (hl : b.length ≤ 100000) :
    Calls Try.prog 19 #[.slice A b.length c] w (RetAll (allR b).1 (allR b).2 w) := by
  obtain ⟨i0, hi0, hz0, hz1, hz2⟩ := info_parts info_int
  obtain ⟨s0, hs0, hy0, hy1, hy2⟩ := info_parts info_sl
  go_enter Try.func19, Try.ntmps19
  go_wp2
  go_loopw [5, 6, 7] (AllRel w b) (fun _ _ i _ => b.length + 1 - (intOf i).toNat)
  case atStart => exact ⟨0, [], [], some ⟨w.heap.size, 0, none⟩, 0, some ⟨w.heap.size + 1, 0, none⟩, 0, rfl, rfl, by simp, by omega, by omega, by simp, by simp, ⟨.inr ⟨rfl, rfl, _, rfl, Nat.le_refl _, by simp; omega⟩, .inr ⟨rfl, rfl, _, rfl, by simp, by simp⟩, fun k hk hc => by
    have h1 : some w.heap.size = some k := hk
    have h2 : some (w.heap.size + 1) = some k := hc
    rw [← h1] at h2; injection h2 with h2; omega, fun x hx => by cases hx⟩, rfl, rfl, ((Below.refl _ _).alloc (Nat.le_refl _) _).alloc (by simp) _⟩
  case round =>
    obtain ⟨q, ps, xs, Ak, ck, Ac, cc, rfl, rfl, rfl, hq0, hq1, hq2, hq3, hst, hcs, HR, hb⟩ := hrel
    by_cases hlt : q < b.length
    · have tl : decide (q < (b.length : Int)) = true := by simpa using hlt
      have hO := ropen_anyW wr A c b hbc (h.below hb) (by omega) q (by omega) (by omega)
      by_cases hE : opE b q = 0
      · have hn := op_next hE
        have HN := Lib.hid (all_next hq0 hE ps HR.out)
        unfold RetOpenW at hO
        rw [hE] at hO
        have hne : b.map U8 ≠ [] := by
          intro e
          have e' : b = [] := by simpa using e
          rw [e'] at hn
          simp at hn
          omega
        have HNE := Lib.hid hne
        have Hcs := Lib.hid hcs
        clear HR hne hcs
        generalize opK b q = K at *
        generalize opC b q = C at *
        generalize opT b q = T at *
        go_wp2_with fail
        refine hO.mono ?_
        rintro e w1 ⟨A1, c1, rfl, hr1, hc1, hb1, hwh⟩
        have hL : Lies w1 (.slice Ak ps.length ck) (.slice Ac xs.length cc) ⟨A1, C, c1⟩ := ⟨hr1, hwh.apart HNE.out h (Nat.le_refl _) hst.ok, hwh.apart HNE.out h (Nat.le_refl _) hst.oc⟩
        have hst1 := Lib.hid ((hst.up hb1).more hL)
        have hb1 := step_below hb hb1
        clear hO hst hr1 hwh HNE hL
        go_wp2_with (first
          | (at_builtin
             refine wpList_append_map _ kI kI_one rfl (.tmp 28) (.tmp 30) _ rfl w.heap.size 3 i0 _ 8 Try.underlying37 hi0 hz0 hz1 hz2 rfl Ak ck ps rfl (hst1.out.alloc _).ok (some ⟨w1.heap.size, 0, none⟩) 1 [(K, C)] rfl (Rd.new _ _ _ _) (by simp only [maxLen, List.length_cons, List.length_nil]; omega) (by simp only [List.length_cons, List.length_nil]; omega) (by simp; have := hb1.size; omega) ?_
             intro A2 c2 ps2 w2 e2 hown2 hr2 hg2 hb2 hat2
             have hst2 := Lib.hid ((hst1.out.alloc _).k hown2 ⟨hg2, hat2, hb2⟩)
             have hbw2 := (hb1.alloc hb1.size _).trans hb2
             clear hst1 hb1 hown2 hr2 hg2 hat2 hb2)
          | (at_builtin
             refine wpList_append_map _ CTv CTv_one rfl (.tmp 32) (.tmp 34) _ rfl w.heap.size 22 s0 _ 24 Try.underlying38 hs0 hy0 hy1 hy2 rfl Ac cc xs rfl (hst2.out.alloc _).oc (some ⟨w2.heap.size, 0, none⟩) 1 [⟨A1, C, c1⟩] rfl (Rd.new _ _ _ _) (by simp only [maxLen, List.length_cons, List.length_nil]; omega) (by simp only [List.length_cons, List.length_nil]; omega) (by simp; have := hbw2.size; omega) ?_
             intro A3 c3 xs3 w3 e3 hown3 hr3 hg3 hb3 hat3
             have hst3 := Lib.hid ((hst2.out.alloc _).c hown3 ⟨hg3, hat3, hb3⟩)
             have hbw3 := (hbw2.alloc hbw2.size _).trans hb3
             clear hst2 hown3 hr3 hg3 hat3 hb3)
          | fail)
        go_roundw
        case rel =>
          have e2' := e2.out
          have e3' := e3.out
          subst e2' e3'
          exact ⟨T, _, _, A2, c2, A3, c3, rfl, rfl, rfl, by omega, by omega, by rw [List.length_append]; simp; omega, by rw [List.length_append]; simp; omega, hst3.out, by rw [contents, List.map_append, List.map_append]; have := Hcs.out; unfold contents at this; rw [this]; rfl, HN.out, hbw3⟩
        case measure => simp [intOf]; omega
      · have HN := Lib.hid (all_stop hE ps HR.out)
        have ne : (opE b q == 0) = false := beq_eq_false_iff_ne.2 hE
        have ne' : (opE b q != 0) = true := bne_iff_ne.2 hE
        unfold RetOpenW at hO
        have Hcs := Lib.hid hcs
        clear HR hcs
        generalize opK b q = K at *
        generalize opC b q = C at *
        generalize opT b q = T at *
        generalize opE b q = er at *
        go_wp2_with fail
        refine hO.mono ?_
        rintro e w1 ⟨A1, c1, rfl, hr1, hc1, hb1, hwh⟩
        have hst1 := Lib.hid (hst.up hb1)
        have hb1 := step_below hb hb1
        clear hO hst hr1 hwh
        go_wp2_with fail
        exact bodyPost_ret (v := .tuple #[.slice Ak ps.length ck, .slice Ac xs.length cc, .int .i64 q]) (by simp [results, Try.results19, go_sem]) rfl (retAll HN.out hst1.out Hcs.out hb1)

    · have tl : decide (q < (b.length : Int)) = false := by simpa using hlt
      have hq : q = b.length := by omega
      have hE : opE b q ≠ 0 := fun he => by have := op_next he; omega
      have HN := Lib.hid (all_stop hE ps HR.out)
      have Hcs := Lib.hid hcs
      have Hst := Lib.hid hst
      clear HR hcs hst hE hq
      go_wp2_with fail
      exact bodyPost_ret (v := .tuple #[.slice Ak ps.length ck, .slice Ac xs.length cc, .int .i64 q]) (by simp [results, Try.results19, go_sem]) rfl (retAll HN.out Hst.out Hcs.out hb)
end Go.Proofs.Ythjmdfimnbmbfaa
