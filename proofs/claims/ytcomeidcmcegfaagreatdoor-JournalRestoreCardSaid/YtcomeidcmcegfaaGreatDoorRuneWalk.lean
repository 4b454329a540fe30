/-
  The walks of runes.Points (an iterator over the scalars of a string, whose rounds append) and of tiers.Text. Conditions: utf8's two tables lie as their initialisers lay them.
-/
import Derived.RangeFuncNested
import Derived.RangeFuncBound
import Derived.RangeFuncCalls
import Derived.RangeFuncLeaves
import Derived.RangeFuncBox
import Derived.Shelf.Abstract
import Derived.Shelf.RegionOpen
import Derived.WalkKit
import Derived.OwnWalkIn
import Derived.TacticsInMore
import Derived.LoopNIn
import Derived.LoopIn
import Derived.Maps.AppendAt
import Derived.Laws.RangeAny
import Derived.Test.YtcomeidcmcegfaaGreatDoorShelf
import Derived.Test.YtcomeidcmcegfaaGreatDoorOpsPlain
namespace Go.Proofs.YtcomeidcmcegfaaGreatDoor
open Go.RowKit Go.Shelf Go.Lib
set_option linter.unusedVariables false
attribute [local go_sem] Oper.semAt_some
def Tabs (w : World) : Prop := Lib.Utf8Tabs (Tryz.laysValid_ren.g 3) (Tryz.laysValid_ren.g 4) w
theorem Tabs.below {w w' : World} (h : Tabs w) (hb : Below w.heap.size w w') : Tabs w' := by
 have key : ∀ {p : Addr} {u : Value}, w.cell? p = some u → w'.cell? p = some u := by
  intro p u hc
  have hp : p.block < w.heap.size := by
   rcases Nat.lt_or_ge p.block w.heap.size with hlt | hge
   ·exact hlt
   ·simp [World.cell?, Array.getElem?_eq_none hge] at hc
  rw [hb.cell hp]; exact hc
 exact ⟨fun c hc => key (h.1 c hc), fun i hi => ⟨key (h.2 i hi).1, key (h.2 i hi).2⟩⟩
theorem valid_any (w : World) (s : List UInt8) (hs : s.length ≤ maxLen) (hT : Tabs w) :
 Calls Tryz.prog 107 #[.string ⟨s.toArray⟩] w fun e w' => e = .returned (.bool (validD s)) ∧ Below w.heap.size w w' := by
 exact Any.utf8_ValidString Tryz.laysValid ⟨s.toArray⟩ w (by unfold maxLen at hs; simpa [ByteArray.size] using hs) hT
theorem run_next_at {P : Program} {w : World} {k : Nat} {s : ByteArray} {pos : Nat} (ty : TypeId) (hk : w.heap[k]? = some (.stringIter s pos)) (h : pos < s.size) :
 (Instr.next (.pointer (some ⟨k, 0, none⟩)) true ty).run P w = .ok (.tuple #[.bool true, .int .i64 pos, .int .i32 (Utf8.decode s pos).1]) (w.putObj k (.stringIter s (pos + (Utf8.decode s pos).2))) := by
 simp only [Instr.next, getObj, setObj, Sem.run_bind, Sem.run, hk, Result.andThen, h, if_true]
 simp [goInt, World.putObj]
theorem run_next_over {P : Program} {w : World} {k : Nat} {s : ByteArray} {pos : Nat} (ty : TypeId) (hk : w.heap[k]? = some (.stringIter s pos)) (h : ¬ pos < s.size) :
 (Instr.next (.pointer (some ⟨k, 0, none⟩)) true ty).run P w = .ok (.tuple #[.bool false]) w := by
 simp [Instr.next, getObj, Sem.run, hk, h]
theorem iter_pos {w : World} {k : Nat} {s : ByteArray} {pos : Nat} (hk : w.heap[k]? = some (.stringIter s pos)) : w.iterPos k = pos := by simp [World.iterPos, hk]
abbrev ptEnc (x : Int × Int) : Array Value := #[.int .i64 x.1, .int .i64 x.2]
set_option maxRecDepth 100000 in
set_option maxHeartbeats 1000000 in
theorem scalars1_in (F : Fence) (n : Nat) (hF : F.fn 111) (hro : F.round = none) (hn : 1 ≤ n) (l Bn : Nat) (s : ByteArray) (hs : s.size ≤ maxLen) (J Jx : List (Int × Int) → World → Prop)
 (hY : ∀ pre x W, J pre W → pre.length < s.size → YieldAt F (n - 1) Tryz.prog l (ptEnc x) W fun e W' =>
  (e = .returned (.bool true) ∧ J (pre ++ [x]) W' ∧ KeepsWalks W W') ∨ (e = .returned (.bool false) ∧ Jx (pre ++ [x]) W'))
 (W : World) (hJ : AbidesFrom W.heap.size J) (hBn : W.cell? ⟨Bn, 0, none⟩ = some (.string s)) (h0 : J [] W) :
 CallsIn F n Tryz.prog 111 #[.func (.yield l) #[] #[], .pointer (some ⟨Bn, 0, none⟩)] W fun e W' => (∃ v, e = .returned v) ∧
  ((∃ ys : List (Int × Int), ys.length ≤ s.size ∧ J ys W') ∨ (∃ pre, True ∧ Jx pre W')) := by
 unfold maxLen at hs
 refine callsIn_of_wp Tryz.func111 rfl hF ?_ hro
 simp only [Tryz.ntmps111, List.size_toArray, List.length_cons, List.length_nil, Nat.reduceAdd, Nat.reduceSub, Array.replicate_succ, Array.replicate_zero, List.push_toArray, List.append_toArray, List.nil_append, List.cons_append]
 gi_wp2
 gi_loopw [3, 4] (fun _ _ wr => ∃ (pos : Nat) (pre : List (Int × Int)), pre.length ≤ pos ∧ pos ≤ s.size + 4 ∧ pre.length ≤ s.size ∧ wr.heap[W.heap.size]? = some (.stringIter s pos) ∧ J pre wr)
  (fun _ _ wr => s.size + 4 - wr.iterPos W.heap.size)
 case atStart =>
  exact ⟨0, [], by simp, by omega, by simp, World.iter_heap W s 0, hJ [] W _ none h0 (World.grownBy_alloc _ _ _) (fun r e => by cases e)⟩
 case round =>
  obtain ⟨pos, pre, hp1, hp2, hp3, hk, hJs⟩ := hrel
  by_cases hp : pos < s.size
  ·have hnx : ∀ ty, (Instr.next (.pointer (some ⟨W.heap.size, 0, none⟩)) true ty).run Tryz.prog wr = _ := fun ty => run_next_at ty hk hp
   have hwd : 1 ≤ (Utf8.decode s pos).2 := Lib.width_pos s pos
   have hrl := Lib.rune_le s pos
   have hwd4 : (Utf8.decode s pos).2 ≤ 4 := by
    rw [decode_at]; unfold decodeN
    repeat' split
    all_goals simp
   have hlt := (Array.getElem?_eq_some_iff.1 hk).1
   generalize (Utf8.decode s pos).2 = wd at *
   generalize (Utf8.decode s pos).1 = rn at *
   have hk2 : (wr.putObj W.heap.size (.stringIter s (pos + wd))).heap[W.heap.size]? = some (.stringIter s (pos + wd)) := World.putObj_heap_same hlt
   have hJ2 : J pre (wr.putObj W.heap.size (.stringIter s (pos + wd))) := hJ pre wr _ (some W.heap.size) hJs (grownBy_putObj' _ _ _) (fun r e => by cases e; exact ⟨Nat.le_refl _, _, hk, rfl⟩)
   obtain ⟨fn, tmps, assign, body, hy, hR⟩ := hY pre ((pos : Int), (rn : Int)) _ hJ2 (by omega)
   dsimp only [ptEnc] at hy
   gi_wp2
   refine hR.mono ?_
   rintro e W3 (⟨rfl, hJ3, hk3⟩ | ⟨rfl, hJx3⟩)
   ·have hk4 := hk3.same _ _ hk2 rfl
    gi_wp2
    go_roundw
    case rel => exact ⟨pos + wd, _, by simp; omega, by omega, by simp; omega, hk4, hJ3⟩
    case measure => rw [iter_pos hk4, iter_pos hk]; omega
   ·gi_wp2
    refine bodyPost_ret (results_none rfl _ _ _) rfl ?_
    exact ⟨⟨_, rfl⟩, .inr ⟨_, trivial, hJx3⟩⟩
  ·have hnx : ∀ ty, (Instr.next (.pointer (some ⟨W.heap.size, 0, none⟩)) true ty).run Tryz.prog wr = _ := fun ty => run_next_over ty hk hp
   gi_wp2
   go_end0
   exact ⟨⟨_, rfl⟩, .inl ⟨pre, hp3, hJs⟩⟩
set_option maxHeartbeats 1000000 in
theorem scalars_any (s : ByteArray) (w : World) :
 Calls Tryz.prog 108 #[.string s] w fun e w' => e = .returned (.func (.func 111) #[] #[.pointer (some ⟨w.heap.size, 0, none⟩)]) ∧ w.alloc (.cells #[.string s] 9) = w' := by
 go_enter Tryz.func108, Tryz.ntmps108
 go_wp2
 go_ret
 exact ⟨rfl, rfl⟩
def RetPts (b : Bool) (w : World) (e : Ending) (w' : World) : Prop := (∃ A n c, e = .returned (.tuple #[.slice A n c, .bool b])) ∧ Below w.heap.size w w'
set_option maxRecDepth 100000 in
set_option maxHeartbeats 4000000 in
theorem points_any (w : World) (s : List UInt8) (hs : s.length ≤ 1000000) (hT : Tabs w) : Calls Tryz.prog 104 #[.string ⟨s.toArray⟩] w (RetPts (validD s) w) := by
 have kV := fun w' (h : Tabs w') => valid_any w' s (by unfold maxLen; omega) h
 rcases hv : validD s with _ | _
 ·rw [hv] at kV
  go_enter Tryz.func104, Tryz.ntmps104
  go_wp2_with fail
  refine (kV _ hT).mono ?_
  rintro e w1 ⟨rfl, hb1⟩
  go_wp2_with fail
  exact bodyPost_ret (v := .tuple #[.slice none 0 0, .bool false]) (by simp [results, Tryz.results104, go_sem]) rfl ⟨⟨_, _, _, rfl⟩, hb1⟩
 ·rw [hv] at kV
  obtain ⟨i0, hi, hz0, hz1, hz2⟩ := info_parts info_int
  have hsz : (ByteArray.mk s.toArray).size = s.length := by simp [ByteArray.size]
  refine (callsIn_wide (n := 6)).1 ?_
  refine callsIn_of_wp_marks Tryz.func104 rfl trivial ?_ rfl
  simp only [Tryz.ntmps104, List.size_toArray, List.length_cons, List.length_nil, Nat.reduceAdd, Nat.reduceSub, Array.replicate_succ, Array.replicate_zero, List.push_toArray, List.append_toArray, List.nil_append, List.cons_append]
  gi_wp2_with (refine ⟨trivial, ?_⟩; gi_at_call 107; refine (callsIn_wide.2 (kV _ hT)).mono ?_; rintro e w1 ⟨rfl, hb1⟩)
  gi_wp2_with (refine ⟨trivial, ?_⟩; gi_at_call 108; refine (callsIn_wide.2 (scalars_any _ _)).mono ?_; rintro e w' ⟨rfl, rfl⟩)
  have bO := Boxed.new w1 24 (.slice none 0 0)
  have bN := Boxed.new (w1.alloc (.cells #[.slice none 0 0] 24)) 9 (.string ⟨s.toArray⟩)
  rw [World.size_alloc] at bN
  have hB0 : Below w1.heap.size w1 ((w1.alloc (.cells #[.slice none 0 0] 24)).alloc (.cells #[.string ⟨s.toArray⟩] 9)) := ((Below.refl _ w1).alloc (Nat.le_refl _) _).alloc (by simp) _
  refine wpIn_rangeFunc_ownG rfl (by omega) (gf := 111) (lb := #[.pointer (some ⟨w1.heap.size + 1, 0, none⟩)]) rfl trivial (enters_of Tryz.func111 (by kernel_rfl) rfl)
   (encs := ptEnc) (S := fun ys : List (Int × Int) => ys.length ≤ (ByteArray.mk s.toArray).size) (Sp := fun _ => True) (N := (ByteArray.mk s.toArray).size) (w0 := (w1.alloc (.cells #[.slice none 0 0] 24)).alloc (.cells #[.string ⟨s.toArray⟩] 9))
   (Kp := KeepsWalks)
   (fun l J Jx W hW hJ hJx hY h0 => scalars1_in _ _ trivial rfl (by omega) l (w1.heap.size + 1) ⟨s.toArray⟩ (by rw [hsz]; unfold maxLen; omega) J Jx hY W hJ ((hW.cell (p := ⟨w1.heap.size + 1, 0, none⟩) (by simp)).trans bN.cell) h0)
   walksK_t walksK_b (Below.refl _ _) (fun _ => rfl)
   (fun pre W => (∃ v, Boxed W w1.heap.size 24 v ∧ W.ownsRow w1.heap.size 3 1 v pre.length (pre.map fun x => Value.int .i64 x.2) ∧ True) ∧ Below w1.heap.size w1 W)
   (fun _ _ _ => False)
   (OwnFrom.and (Own.from (holdsRow_own w1.heap.size w1.heap.size 24 3 1 (fun pre : List (Int × Int) => pre.length) (fun pre => pre.map fun x => Value.int .i64 x.2) (fun _ _ => True)) _) (ownFrom_below (Nat.le_refl _) (by simp; omega)))
   (fun _ _ _ _ _ hs _ _ => hs)
   ⟨⟨_, bO.alloc _, World.ownsRow_nil _ _ _ _, trivial⟩, hB0⟩
   (fun x => { tmps := #[.string ⟨s.toArray⟩, undef, .slice none 0 0, .bool false, .pointer (some ⟨w1.heap.size, 0, none⟩), undef, .int .i64 x.2, .string ⟨s.toArray⟩, .bool true, .bool false, .string ⟨s.toArray⟩, .func (.func 111) #[] #[.pointer (some ⟨w1.heap.size + 1, 0, none⟩)], .int .i64 x.1, .int .i64 x.2, undef, undef, undef, undef, undef], defers := [] }) ?assign ?body ?done ?stop
  case assign =>
   intro l x W K hK
   gi_wp2
   exact hK
  case body =>
   rintro l pre x W ⟨⟨v, hv, hrow, _⟩, hB⟩ hlt
   have hc := hv.cell
   rw [hsz] at hlt
   gi_wp2_with (gi_at_builtin; refine wpListIn_append_own _ rfl _ _ 24 rfl w1.heap.size 3 i0 (.int .i64 0) 1 8 Tryz.underlying24 hi hz0 hz1 hz2 rfl (by decide) _ _ _ rfl (hrow.alloc _) ⟨W.heap.size, 0, none⟩ 1 1 [.int .i64 x.2] rfl rfl (cell_one_new _ _ _) (by simp [Value.oneCell']) (by unfold maxLen; omega) (by omega) (by have := hB.size; simp; omega) ?_; intro v' w2 hown' hgrow _; obtain ⟨g', cap', rfl⟩ := ownsRow_succ hown'; obtain ⟨hv1, hv2, hr2, hk2, hb2⟩ := hv.appended (by decide) hrow hB.size (Nat.le_refl _) hown' hgrow; have hc1 := hv1.cell; have hf1 := hv1.frozen)
   exact ⟨hk2.from _, hk2.walks, ⟨_, hv2, by simpa using hr2, trivial⟩, hB.trans hb2⟩
  case done =>
   rintro D ys W hD _ ⟨⟨v, hv, hrow, _⟩, hB⟩ hK
   have hc := hv.cell
   gi_wp2
   refine ⟨by simp, .inl ⟨_, _, rfl, run_takeDeferred hK, ?_⟩⟩
   have hB' := hB.trans (belowK_b (w := w1) (Nat.le_refl _) W D _ (.deferred none) (by simp at hD; omega) hK rfl rfl)
   obtain ⟨A, n, c, rfl⟩ : ∃ A n c, v = .slice A n c := by
    rcases hrow.2 with ⟨rfl, _⟩ | ⟨g, cap, cur, rfl, _⟩
    ·exact ⟨_, _, _, rfl⟩
    ·exact ⟨_, _, _, rfl⟩
   refine ⟨.tuple #[.slice A n c, .bool true], by simp [results, Tryz.results104, go_sem], ⟨_, _, _, rfl⟩, hb1.trans (hB'.mono hb1.size)⟩
  case stop =>
   rintro D c pre W _ _ h _
   exact h.elim
end Go.Proofs.YtcomeidcmcegfaaGreatDoor
