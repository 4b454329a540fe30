/-
  A range over a function value whose body may leave the loop, where the iterator tells the body something of each element ('C pre x W': it holds when x is yielded in W behind pre) and ends in S. Proved out of the library's steps of a loop's record. Conditions: those of the library's law; C and S stand behind a turn of the loop's own record.
  A region that draws its order, inside a round of a loop over a function value: walked as outside of one. Conditions: the region defers nothing; the fence is the wide one.
  The walks of both of layer 51 and of its iterator where the first list is empty, and of sorted of a list of at most one operation. Conditions: the operations are readable.
-/
import Derived.RangeFuncWrites
import Derived.Test.YtcomeidcmcegfaaGreatDoorBase
import Derived.RangeFuncCalls
import Derived.OrdersIn
import Derived.Deep.RegionHeld3
import Derived.Test.YtcomeidcmcegfaaGreatDoorHeld2
import Derived.LoopIn
import Derived.Laws.RangeAny
import Derived.Test.YtcomeidcmcegfaaGreatDoorZO
import Derived.Test.YtcomeidcmcegfaaGreatDoorClockLess
namespace Go.Proofs.YtcomeidcmcegfaaGreatDoor
open Go.RowKit
set_option linter.unusedVariables false
section
variable {F : Fence} {n : Nat} {P : Program} {α : Type}
def SeqD (F : Fence) (n : Nat) (P : Program) (g : Nat) (lb : Array Value) (encs : α → Array Value) (Kp : World → World → Prop) (C : List α → α → World → Prop) (S : List α → World → Prop) (N : Nat) (w : World) : Prop :=
 ∀ (l : Nat) (J Jx : List α → World → Prop) (W : World), Below w.heap.size w W → AbidesFrom W.heap.size J → AbidesFrom W.heap.size Jx →
  (∀ pre x W1, J pre W1 → C pre x W1 → pre.length < N → YieldAt F (n - 1) P l (encs x) W1 fun e W' => (e = .returned (.bool true) ∧ J (pre ++ [x]) W' ∧ Kp W1 W') ∨ (e = .returned (.bool false) ∧ Jx (pre ++ [x]) W')) →
  J [] W →
  CallsIn F n P g (#[.func (.yield l) #[] #[]] ++ lb) W fun e W' => (∃ v, e = .returned v) ∧ ((∃ xs, S xs W' ∧ J xs W') ∨ ∃ pre, Jx pre W')
theorem wpIn_rangeFunc_D {g : Operand} {ps : Array Tmp} {assign body : Code} {Q : Exit → Act → World → Prop} {a : Act} {w : World}
 (hro : F.round = none) (h1 : 1 ≤ n) {gf : Nat} {lb : Array Value} (hg : a.eval g = .func (.func gf) #[] lb) (hFg : F.fn gf) (eg : ∀ args w, (callFunc gf args).run P w = .ok (.enter gf args) w)
 {encs : α → Array Value} {Kp : World → World → Prop} {C : List α → α → World → Prop} {S : List α → World → Prop} {N : Nat} {w0 : World} (hseq : SeqD F (n - 1) P gf lb encs Kp C S N w0)
 (hKt : ∀ {A B C : World}, Kp A B → Kp B C → Kp A C) (hKb : ∀ (W : World) (l : Nat) (o o' : Obj), w.heap.size ≤ l → W.heap[l]? = some o → o.isCells = false → o.isWalk = false → Kp W (W.putObj l o'))
 (hCb : ∀ (pre : List α) (x : α) (W : World) (l : Nat) (o o' : Obj), W.heap[l]? = some o → o.isCells = false → C pre x W → C pre x (W.putObj l o'))
 (hSb : ∀ (xs : List α) (W : World) (l : Nat) (o o' : Obj), W.heap[l]? = some o → o.isCells = false → S xs W → S xs (W.putObj l o'))
 (hb0 : Below w0.heap.size w0 w) (hps : ∀ x, (encs x).size = ps.size)
 (I : List α → World → Prop) (Ix : Code → List α → World → Prop) (hI : OwnFrom w.heap.size I) (hIx : ∀ c, OwnFrom w.heap.size (Ix c)) (h0 : I [] w) (asg : α → World → Act) (aw : α → World → World) (Fr : α → World → World → Prop)
 (haw : ∀ (x : α) (W : World), W.grownBy (aw x W) none) (hKw : ∀ (x : α) (W : World), w.heap.size ≤ W.heap.size → Kp W (aw x W)) (hCw : ∀ (pre : List α) (x : α) (W : World), C pre x W → C pre x (aw x W)) (hFr : ∀ (x : α) (W : World) (l : Nat) (o o' : Obj), (aw x W).heap[l]? = some o → o.isCells = false → Fr x W ((aw x W).putObj l o'))
 (hassign : ∀ (l : Nat) (x : α) (W : World) (K : Act → World → Prop), K (asg x W) (aw x W) →
  assign.wpIn (F.inRound l) (n - 1 - 1) P (Exit.then K (fun _ _ _ => False)) { tmps := (ps.zip (encs x)).foldl (fun t (p, v) => t.setIfInBounds p v) a.tmps, defers := [] } W)
 (hbody : ∀ (l : Nat) (pre : List α) (x : α) (W Y : World), I pre Y → C pre x Y → Fr x W Y → w.heap.size ≤ Y.heap.size → pre.length < N → body.wpIn (F.inRound l) (n - 1 - 1) P (ownPostG w.heap.size Kp I Ix (pre ++ [x]) Y) (asg x W) Y)
 (hdone : ∀ (D : Nat) (xs : List α) (W : World), w.heap.size ≤ D → S xs W → I xs W → W.heap[D]? = some (.deferred (some [])) → Q .normal { a with defers := { target := .collected D, args := #[] } :: a.defers } W)
 (hstop : ∀ (D : Nat) (c : Code) (pre : List α) (W : World), w.heap.size ≤ D → Ix c pre W → W.heap[D]? = some (.deferred (some [])) → c.wpIn F n P Q { a with defers := { target := .collected D, args := #[] } :: a.defers } W) :
 (Code.rangeFunc g ps assign body).wpIn F n P Q a w := by
 -- the two blocks of the loop's own: the deferred calls in block D, the record in block D + 1
 refine wpIn_rangeFunc fun fn hfn => ?_
 rw [hro]
 obtain ⟨rec, hrec⟩ : ∃ rec : LoopState → Option Code → Loop, rec = fun st pe => { state := st, pending := pe, fn, tmps := a.tmps, params := ps, assign, body, defers := w.heap.size } := ⟨_, rfl⟩
 obtain ⟨V, hV⟩ : ∃ V, (w.alloc (.deferred (some []))).alloc (.loop (rec .ready none)) = V := ⟨_, rfl⟩
 have sV : V.heap.size = w.heap.size + 2 := by rw [← hV]; simp
 have rV : V.heap[w.heap.size + 1]? = some (.loop (rec .ready none)) := by
  rw [← hV]; have := World.alloc_heap_new (w.alloc (.deferred (some []))) (.loop (rec .ready none)); rwa [World.size_alloc] at this
 have dV : V.heap[w.heap.size]? = some (.deferred (some [])) := by
  rw [← hV]; exact (Below.heap_alloc _ _ _ (by simp)).trans (World.alloc_heap_new w _)
 have iV : I [] V := by rw [← hV]; exact hI.alloc _ (hI.alloc _ h0)
 have bV : Below w0.heap.size w0 V := by
  rw [← hV]; exact hb0.trans ((((Below.refl _ w).alloc (Nat.le_refl _) _).alloc (by simp) _).mono hb0.size)
 refine ⟨w.heap.size + 1, [{ target := .collected w.heap.size, args := #[] }], V, { target := .fn (.func gf) lb, args := #[.func (.yield (w.heap.size + 1)) #[] #[]] }, V, gf,
  #[.func (.yield (w.heap.size + 1)) #[] #[]] ++ lb, V, ?_, ?_, ?_, ?_, fun _ => h1, ?_⟩
 ·rw [← hV, hrec]; exact run_enterLoop_outer _ _ _ _ _
 ·simp only [resolve, hg]
  simp [go_sem]
 ·intro f' hf'; simp [Target.leads] at hf'; subst hf'; exact hFg
 ·simp [invoke, go_sem, eg]
 -- what the iterator carries: the caller's invariant and the two blocks
 refine (hseq (w.heap.size + 1) (fun pre W => I pre W ∧ W.heap[w.heap.size + 1]? = some (.loop (rec .ready none)) ∧ W.heap[w.heap.size]? = some (.deferred (some [])))
  (fun pre W => ∃ c, Ix c pre W ∧ W.heap[w.heap.size + 1]? = some (.loop (rec .done (some c))) ∧ W.heap[w.heap.size]? = some (.deferred (some []))) V bV ?_ ?_ ?_ ⟨iV, rV, dV⟩).mono ?_
 ·rintro s X Y row ⟨hs, hl, hk⟩ hgr hr
  refine ⟨hI s X Y row hs hgr fun r e => ?_, (grownBy_keeps hgr (fun r e => (hr r e).2) hl rfl).trans hl, (grownBy_keeps hgr (fun r e => (hr r e).2) hk rfl).trans hk⟩
  obtain ⟨hB, o, ho, hw⟩ := hr r e
  exact ⟨by omega, o, ho, Obj.not_cells_of_walk hw⟩
 ·rintro s X Y row ⟨c, hs, hl, hk⟩ hgr hr
  refine ⟨c, hIx c s X Y row hs hgr fun r e => ?_, (grownBy_keeps hgr (fun r e => (hr r e).2) hl rfl).trans hl, (grownBy_keeps hgr (fun r e => (hr r e).2) hk rfl).trans hk⟩
  obtain ⟨hB, o, ho, hw⟩ := hr r e
  exact ⟨by omega, o, ho, Obj.not_cells_of_walk hw⟩
 ·rintro pre x W0 ⟨hi0, hl0, hk0⟩ hC0 hlen
  have hy := run_yield (P := P) (args := encs x) hl0 (by rw [hrec]; exact hps x)
  rw [hrec] at hy
  have kw := hKw x W0 (by have := (Array.getElem?_eq_some_iff.1 hl0).1; omega)
  obtain ⟨W, hWe⟩ : ∃ W, aw x W0 = W := ⟨_, rfl⟩
  have gw := haw x W0
  have hC := hCw pre x W0 hC0
  have hF := hFr x W0
  have hi := hI pre W0 _ none hi0 gw (fun r e => by cases e)
  have hl := (gw.block _ (Array.getElem?_eq_some_iff.1 hl0).1 (by simp)).trans hl0
  have hk := (gw.block _ (Array.getElem?_eq_some_iff.1 hk0).1 (by simp)).trans hk0
  rw [hWe] at kw hC hF hi hl hk
  have hlt := (Array.getElem?_eq_some_iff.1 hl).1
  refine ⟨fn, _, assign, body, hy, roundIn_of_wpIn hfn (hassign _ x W0 _ ⟨_, by rw [hWe]; exact run_beginRound hl (by rw [hrec]), ?_⟩)⟩
  obtain ⟨busy, hbusy⟩ : ∃ b : Obj, b = .loop { rec .ready none with state := .busy } := ⟨_, rfl⟩
  have l2 : (W.putObj (w.heap.size + 1) busy).heap[w.heap.size + 1]? = some busy := World.putObj_heap_same hlt
  have k2 : (W.putObj (w.heap.size + 1) busy).heap[w.heap.size]? = some (.deferred (some [])) := (World.putObj_heap_other (by omega)).trans hk
  have w2 : Kp W0 (W.putObj (w.heap.size + 1) busy) := hKt kw (hKb _ _ _ _ (by omega) hl rfl rfl)
  have sz : w.heap.size ≤ (W.putObj (w.heap.size + 1) busy).heap.size := by have := (Array.getElem?_eq_some_iff.1 k2).1; omega
  rw [← hbusy]
  refine wpIn_mono (hbody _ pre x W0 _ (hI.putObj _ hi (by omega) hl rfl) (hCb _ _ _ _ _ _ hl rfl hC) (hF _ _ _ hl rfl) sz hlen) ?_
  have fin : ∀ (jump : Option Code) (W3 : World), KeepsFrom w.heap.size (W.putObj (w.heap.size + 1) busy) W3 →
   (Instr.endRound (w.heap.size + 1) jump).run P W3 = .ok (.bool jump.isNone) (W3.putObj (w.heap.size + 1) (.loop (rec (if jump.isNone then .ready else .done) jump))) ∧
   W3.heap[w.heap.size + 1]? = some busy ∧
   (W3.putObj (w.heap.size + 1) (.loop (rec (if jump.isNone then .ready else .done) jump))).heap[w.heap.size + 1]? = some (.loop (rec (if jump.isNone then .ready else .done) jump)) ∧
   (W3.putObj (w.heap.size + 1) (.loop (rec (if jump.isNone then .ready else .done) jump))).heap[w.heap.size]? = some (.deferred (some [])) := fun jump W3 hk3 => by
   have hl3 := hk3.same _ _ (by omega) l2 (by rw [hbusy]; rfl)
   have hr := run_endRound (P := P) jump (by rw [hbusy] at hl3; exact hl3)
   rw [hrec] at hr ⊢
   exact ⟨hr, hl3, World.putObj_heap_same (Array.getElem?_eq_some_iff.1 hl3).1, (World.putObj_heap_other (by omega)).trans (hk3.same _ _ (Nat.le_refl _) k2 rfl)⟩
  rintro e a3 W3 hp
  cases e with
  | normal =>
   obtain ⟨k3, p3, i3⟩ := hp
   obtain ⟨hr, l3, l4, k4⟩ := fin none W3 k3
   exact ⟨_, _, hr, .inl ⟨rfl, ⟨hI.putObj _ i3 (by omega) l3 (by rw [hbusy]; rfl), l4, k4⟩, hKt (hKt w2 p3) (hKb _ _ _ _ (by omega) l3 (by rw [hbusy]; rfl) (by rw [hbusy]; rfl))⟩⟩
  | ret =>
   obtain ⟨k3, i3⟩ := hp
   obtain ⟨hr, l3, l4, k4⟩ := fin (some .ret) W3 k3
   exact ⟨_, _, hr, .inr ⟨rfl, .ret, (hIx _).putObj _ i3 (by omega) l3 (by rw [hbusy]; rfl), l4, k4⟩⟩
  | exit id =>
   obtain ⟨k3, i3⟩ := hp
   obtain ⟨hr, l3, l4, k4⟩ := fin (some (.exit id)) W3 k3
   exact ⟨_, _, hr, .inr ⟨rfl, .exit id, (hIx _).putObj _ i3 (by omega) l3 (by rw [hbusy]; rfl), l4, k4⟩⟩
  | goto t =>
   obtain ⟨k3, i3⟩ := hp
   obtain ⟨hr, l3, l4, k4⟩ := fin (some (.goto t)) W3 k3
   exact ⟨_, _, hr, .inr ⟨rfl, .goto t, (hIx _).putObj _ i3 (by omega) l3 (by rw [hbusy]; rfl), l4, k4⟩⟩
  | panic ch => exact hp.elim
  | outgrown => exact hp.elim
 ·rintro e W2 ⟨⟨v, rfl⟩, ⟨xs, hS, hi, hl, hk⟩ | ⟨pre, c, hi, hl, hk⟩⟩
  ·refine ⟨none, _, by have := run_endLoop (P := P) hl (by rw [hrec]; simp); rw [hrec] at this; exact this, ?_⟩
   exact hdone _ xs _ (Nat.le_refl _) (hSb _ _ _ _ _ hl rfl hS) (hI.putObj _ hi (by omega) hl rfl) ((World.putObj_heap_other (by omega)).trans hk)
  ·refine ⟨some c, _, by have := run_endLoop (P := P) hl (by rw [hrec]; simp); rw [hrec] at this; exact this, ?_⟩
   exact hstop _ c pre _ (Nat.le_refl _) ((hIx c).putObj _ hi (by omega) hl rfl) ((World.putObj_heap_other (by omega)).trans hk)
end
end Go.Proofs.YtcomeidcmcegfaaGreatDoor
namespace Go.Proofs.YtcomeidcmcegfaaGreatDoor
open Go.RowKit
set_option linter.unusedVariables false
section
variable {P : Program} {l n : Nat} {ops : Array Oper} {Q : Exit → Act → World → Prop} {md : Region.Mode}
def plainOp (o : Oper) : Bool := match o.op with
 | .defer _ => false
 | _ => true
theorem plainOp_ne {o : Oper} (h : plainOp o = true) : ∀ c, o.op ≠ .defer c := fun c e => by unfold plainOp at h; rw [e] at h; cases h
theorem rowsIn_round {row : String} {args : Array Value} {w : World} {R : Value → World → Prop} (h : Rows P row args w R) : RowsIn (Fence.wide.inRound l) n P row args w R :=
 fun c cs _ => let ⟨v, w', r, s⟩ := h c cs; ⟨v, w', r, stepsIn_wide.2 s⟩
theorem operIn_round {o : Oper} (hd : plainOp o = true) {a : Act} {w : World} {K : Act → World → Prop} (h : Oper.wp P o a w K Q) : Oper.wpIn (Fence.wide.inRound l) n P o a w K Q := by
 refine ⟨fun f _ => trivial, ?_⟩
 rw [Oper.semAt_eq _ _ _ (plainOp_ne hd)]
 unfold Oper.wp at h
 generalize (execOp a.eval o).run P w = r at h
 cases r with
 | ok x w' =>
  cases x <;> simp only [Oper.upon, Oper.uponIn] at h ⊢ <;>
   first
    | exact h
    | exact ⟨fun e => by simp [Fence.wide] at e, CallsIn.inRound l (callsIn_wide.2 h)⟩
    | exact ⟨fun e => by simp [Fence.wide] at e, rowsIn_round h⟩
 | halt x w' => cases x <;> simp only [Oper.upon, Oper.uponIn] at h ⊢ <;> exact h
theorem opIn_round (ho : ∀ a w, ¬ Q .outgrown a w) (hd : ops.all plainOp = true) {i : Nat} {a : Act} {w : World} {K K' : Act → World → Prop} (hK : ∀ a w, K a w → K' a w) (h : wpOp P ops Q i K a w) : wpOpIn (Fence.wide.inRound l) n P ops Q i K' a w := by
 refine wpOpIn_mono hK ?_
 unfold wpOp at h
 unfold wpOpIn
 rcases hi : ops[i]? with _ | o
 ·rw [hi] at h; exact h
 ·rw [hi] at h
  have hp : plainOp o = true := by
   obtain ⟨hi, e⟩ := Array.getElem?_eq_some_iff.1 hi
   rw [Array.all_eq_true] at hd
   rw [← e]; exact hd i hi
  simp only [] at h ⊢
  split
  ·rename_i hw; simp only [hw, if_true] at h; exact operIn_round hp (h.resolve_right fun ⟨_, a, w, h⟩ => ho a w h)
  ·rename_i hw; simp only [hw] at h; exact ⟨fun f _ => trivial, h⟩
theorem wpAnyIn_round (ho : ∀ a w, ¬ Q .outgrown a w) (hd : ops.all plainOp = true) : ∀ (fuel : Nat) (listed : Array Bool) (a : Act) (w : World), wpAny P md ops Q fuel listed a w → wpAnyIn (Fence.wide.inRound l) n P md ops Q fuel listed a w
 | 0, _, _, _, h => h
 | fuel + 1, listed, a, w, h => ⟨h.1, fun i hi => opIn_round ho hd (fun a' w' h' => wpAnyIn_round ho hd fuel _ a' w' h') (h.2 i hi)⟩
theorem wpIn_round_held {S : World → Prop} {id : Nat} {a : Act} {w : World} (ho : ∀ a w, ¬ Q .outgrown a w) (hm : P.follows .mixedOrders = true) (hd : ops.all plainOp = true) (hS : S w.drew)
 (h : S w.drew → wpAnyH P .any ops (NoPanic Q) S ops.size (Array.replicate ops.size false) a w.drew) : (Code.region id ops true).wpIn (Fence.wide.inRound l) n P Q a w :=
 wpIn_mono (wpIn_region_any hm (wpAnyIn_round (Q := NoPanic Q) ho hd _ _ _ _ (wpAny_of_held _ _ _ _ (h hS)))) NoPanic.imp
end
end Go.Proofs.YtcomeidcmcegfaaGreatDoor
namespace Go.Proofs.YtcomeidcmcegfaaGreatDoor
open Go.RowKit Go.Shelf
set_option linter.unusedVariables false
set_option linter.unusedSimpArgs false
attribute [local go_sem] Oper.semAt_some
set_option maxHeartbeats 1000000 in
theorem both_any (w : World) (A B : Option Addr) (n c m d : Nat) :
 Calls Tryz.prog 24 #[.slice A n c, .slice B m d] w fun e w' => e = .returned (.func (.func 45) #[] #[.pointer (some ⟨w.heap.size, 0, none⟩), .pointer (some ⟨w.heap.size + 1, 0, none⟩)]) ∧ (w.alloc (.cells #[.slice A n c] 25)).alloc (.cells #[.slice B m d] 25) = w' := by
 go_enter Tryz.func24, Tryz.ntmps24
 go_wp2
 go_ret
 exact ⟨rfl, rfl⟩
set_option maxHeartbeats 1000000 in
theorem sorted_short (w : World) (A : Option Addr) (n c : Nat) (h : n < 2) : Calls Tryz.prog 25 #[.slice A n c] w fun e w' => e = .returned (.slice A n c) ∧ w = w' := by
 have t1 : decide ((n : Int) < 2) = true := decide_eq_true (by omega)
 go_enter Tryz.func25, Tryz.ntmps25
 go_wp2_with fail
 go_ret
 exact ⟨rfl, rfl⟩
abbrev opEnc (x : OX) : Array Value := #[.agg (opC x.o x.A x.c).toArray]
def NextIn (ys : List OX) (pre : List OX) (x : OX) (_ : World) : Prop := ∃ s, ys = pre ++ x :: s
def BothRel (Kp : World → World → Prop) (W0 : World) (ys : List OX) (J : List OX → World → Prop) (vi vk : Value) (wr : World) : Prop :=
 ∃ k : Nat, vi = .int .i64 0 ∧ vk = .int .i64 k ∧ k ≤ ys.length ∧ J (ys.take k) wr ∧ Kp W0 wr
theorem next_take {ys : List OX} {k : Nat} (hk : k < ys.length) : ys.take (k + 1) = ys.take k ++ [ys[k]] ∧ ys = ys.take k ++ ys[k] :: ys.drop (k + 1) := by
 refine ⟨List.take_succ_eq_append_getElem hk, ?_⟩
 rw [← List.drop_eq_getElem_cons hk, List.take_append_drop]
set_option maxRecDepth 100000 in
set_option maxHeartbeats 8000000 in
theorem bothR_in (n : Nat) (hn : 1 ≤ n) (l Ba Bb : Nat) (Aa Ab : Option Addr) (ca cb : Nat) (ys : List OX) (hys : ys.length ≤ maxLen) (Kp : World → World → Prop) (W0 : World)
 (hKt : ∀ {A B C : World}, Kp A B → Kp B C → Kp A C) (hKu : ∀ {W W' : World}, Kp W0 W → Below W.heap.size W W' → Kp W W')
 (hKB : ∀ W, Kp W0 W → Blk W Ba 25 #[.slice Aa 0 ca] ∧ Blk W Bb 25 #[.slice Ab ys.length cb] ∧ OpsRd W Ab ys)
 (J Jx : List OX → World → Prop)
 (hY : ∀ pre x W, J pre W → NextIn ys pre x W → pre.length < ys.length → YieldAt Fence.wide (n - 1) Tryz.prog l (opEnc x) W fun e W' => (e = .returned (.bool true) ∧ J (pre ++ [x]) W' ∧ Kp W W') ∨ (e = .returned (.bool false) ∧ Jx (pre ++ [x]) W'))
 (W : World) (hW : Kp W0 W) (hJ : AbidesFrom W.heap.size J) (hJx : AbidesFrom W.heap.size Jx) (h0 : J [] W) :
 CallsIn Fence.wide n Tryz.prog 45 #[.func (.yield l) #[] #[], .pointer (some ⟨Ba, 0, none⟩), .pointer (some ⟨Bb, 0, none⟩)] W fun e W' => (∃ v, e = .returned v) ∧ ((∃ xs, xs = ys ∧ J xs W') ∨ ∃ pre, Jx pre W') := by
 unfold maxLen at hys
 have HKt := Lib.hid (fun A B C => @hKt A B C)
 have HKu := Lib.hid (fun A B => @hKu A B)
 have HKB := Lib.hid hKB
 have HY := Lib.hid hY
 clear hKt hKu hKB hY
 refine callsIn_of_wp Tryz.func45 rfl trivial ?_ rfl
 simp only [Tryz.ntmps45, List.size_toArray, List.length_cons, List.length_nil, Nat.reduceAdd, Nat.reduceSub, Array.replicate_succ, Array.replicate_zero, List.push_toArray, List.append_toArray, List.nil_append, List.cons_append]
 gi_wp2
 gi_loopw [4, 5] (BothRel Kp W0 ys J) (fun _ i _ => ys.length - (intOf i).toNat)
 case atStart => exact ⟨0, rfl, rfl, Nat.zero_le _, h0, hW⟩
 case round =>
  obtain ⟨k, rfl, rfl, hk, hJk, hKk⟩ := hrel
  obtain ⟨hBa, hBb, hR⟩ := HKB.out wr hKk
  have cA : wr.cell? ⟨Ba, 0, none⟩ = some (.slice Aa 0 ca) := by rw [hBa.cell]; rfl
  have cB : wr.cell? ⟨Bb, 0, none⟩ = some (.slice Ab ys.length cb) := by rw [hBb.cell]; rfl
  by_cases hlt : k < ys.length
  ·have t1 : decide ((k : Int) < (ys.length : Int)) = true := decide_eq_true (by omega)
   have t2 : (k : Int) < (ys.length : Int) := by omega
   have t3 : 0 ≤ (k : Int) := by omega
   have sA : ∀ w', Up wr w' → w'.cell? ⟨Ba, 0, none⟩ = some (.slice Aa 0 ca) := fun w' u => u.cell cA
   gi_wp2
   refine wpIn_wide.2 ?_
   obtain ⟨b, off, rfl, hblt, hrg⟩ := hR.range hlt
   have hok := hR.ok _ (List.getElem_mem hlt)
   have hT := Lib.hid (next_take hlt).1
   have hN := Lib.hid (next_take hlt).2
   generalize ys[k] = x at *
   obtain ⟨o, Ao, co⟩ := x
   obtain ⟨bdo, ro, qo⟩ := hok
   dsimp only at bdo ro qo
   have m0 : wr.cell? ⟨b, off + k * 15, none⟩ = some (.int .i64 o.ac) := hrg 0 _ rfl
   have m1 : wr.cell? ⟨b, off + k * 15 + 1, none⟩ = some (.int .i64 o.ad) := hrg 1 _ rfl
   have m2 : wr.cell? ⟨b, off + k * 15 + 2, none⟩ = some (.int .i64 o.kd) := hrg 2 _ rfl
   have m3 : wr.cell? ⟨b, off + k * 15 + 3, none⟩ = some (.int .i64 o.rc) := hrg 3 _ rfl
   have m4 : wr.cell? ⟨b, off + k * 15 + 4, none⟩ = some (.int .i64 o.id) := hrg 4 _ rfl
   have m5 : wr.cell? ⟨b, off + k * 15 + 5, none⟩ = some (.int .i64 o.ti) := hrg 5 _ rfl
   have m6 : wr.cell? ⟨b, off + k * 15 + 6, none⟩ = some (.int .i64 o.pa) := hrg 6 _ rfl
   have m7 : wr.cell? ⟨b, off + k * 15 + 7, none⟩ = some (.int .i64 o.sf) := hrg 7 _ rfl
   have m8 : wr.cell? ⟨b, off + k * 15 + 8, none⟩ = some (.int .i64 o.st) := hrg 8 _ rfl
   have m9 : wr.cell? ⟨b, off + k * 15 + 9, none⟩ = some (.int .i64 o.rk) := hrg 9 _ rfl
   have m10 : wr.cell? ⟨b, off + k * 15 + 10, none⟩ = some (.string ⟨o.nt.toArray⟩) := hrg 10 _ rfl
   have m11 : wr.cell? ⟨b, off + k * 15 + 11, none⟩ = some (.int .i64 o.se) := hrg 11 _ rfl
   have m12 : wr.cell? ⟨b, off + k * 15 + 12, none⟩ = some (.int .i64 o.nn) := hrg 12 _ rfl
   have m13 : wr.cell? ⟨b, off + k * 15 + 13, none⟩ = some (.string ⟨o.tx.toArray⟩) := hrg 13 _ rfl
   have m14 : wr.cell? ⟨b, off + k * 15 + 14, none⟩ = some (.slice Ao o.ov.length co) := hrg 14 _ rfl
   clear hrg hR
   have uu : ∀ o, Up wr ((wr.alloc o).drew) := fun o => Up.of ((Below.refl _ _).alloc (Nat.le_refl _) o).drew
   have cB' := fun o => (uu o).cell cB
   have m0 := fun o => (uu o).cell m0
   have m1 := fun o => (uu o).cell m1
   have m2 := fun o => (uu o).cell m2
   have m3 := fun o => (uu o).cell m3
   have m4 := fun o => (uu o).cell m4
   have m5 := fun o => (uu o).cell m5
   have m6 := fun o => (uu o).cell m6
   have m7 := fun o => (uu o).cell m7
   have m8 := fun o => (uu o).cell m8
   have m9 := fun o => (uu o).cell m9
   have m10 := fun o => (uu o).cell m10
   have m11 := fun o => (uu o).cell m11
   have m12 := fun o => (uu o).cell m12
   have m13 := fun o => (uu o).cell m13
   have m14 := fun o => (uu o).cell m14
   have uu := Lib.hid uu
   refine wp_region_noPanic ?_
   refine wp_region_held_drew (S := fun w' => Up wr w') (by kernel_rfl) (Up.drew wr) (fun hHeld => ?_)
   refine tk 0 18 (v := ?_) ?_ ?_
   rotate_left
   ·intro w' hSw; clear hSw; go_simp; try (with_reducible rfl)
   try simp only [tkA, tkB, tkC]
   refine tk 1 19 (v := ?_) ?_ ?_
   rotate_left
   ·intro w' hS0; go_simp; try (with_reducible rfl)
   try simp only [tkA, tkB, tkC]
   refine tk 2 20 (v := ?_) ?_ ?_
   rotate_left
   ·intro w' hSw; clear hSw; go_simp; try (with_reducible rfl)
   try simp only [tkA, tkB, tkC]
   refine tk 3 21 (v := ?_) ?_ ?_
   rotate_left
   ·intro w' hSw; clear hSw; go_simp; try (with_reducible rfl)
   try simp only [tkA, tkB, tkC]
   refine tk 4 22 (v := ?_) ?_ ?_
   rotate_left
   ·intro w' hSw; clear hSw; go_simp; try (with_reducible rfl)
   try simp only [tkA, tkB, tkC]
   refine held_skip 5 rfl (by kernel_rfl) (by kernel_rfl) (by kernel_rfl) (fun _ _ _ h => h) (by rfl) (by assumption) ?_
   change wpAnyH _ _ _ _ _ _ _ (Act.put _ (some 23) _) _
   try simp only [Act.put, tkA, tkB, tkC]
   refine held_skip 6 rfl (by kernel_rfl) (by kernel_rfl) (by kernel_rfl) (fun _ _ _ h => h) (by rfl) (by assumption) ?_
   change wpAnyH _ _ _ _ _ _ _ (Act.put _ (some 24) _) _
   try simp only [Act.put, tkA, tkB, tkC]
   refine held_skip 7 rfl (by kernel_rfl) (by kernel_rfl) (by kernel_rfl) (fun _ _ _ h => h) (by rfl) (by assumption) ?_
   change wpAnyH _ _ _ _ _ _ _ (Act.put _ (some 25) _) _
   try simp only [Act.put, tkA, tkB, tkC]
   refine held_skip 8 rfl (by kernel_rfl) (by kernel_rfl) (by kernel_rfl) (fun _ _ _ h => h) (by rfl) (by assumption) ?_
   change wpAnyH _ _ _ _ _ _ _ (Act.put _ (some 26) _) _
   try simp only [Act.put, tkA, tkB, tkC]
   refine held_skip 9 rfl (by kernel_rfl) (by kernel_rfl) (by kernel_rfl) (fun _ _ _ h => h) (by rfl) (by assumption) ?_
   change wpAnyH _ _ _ _ _ _ _ (Act.put _ (some 27) _) _
   try simp only [Act.put, tkA, tkB, tkC]
   refine held_skip 10 rfl (by kernel_rfl) (by kernel_rfl) (by kernel_rfl) (fun _ _ _ h => h) (by rfl) (by assumption) ?_
   change wpAnyH _ _ _ _ _ _ _ (Act.put _ (some 28) _) _
   try simp only [Act.put, tkA, tkB, tkC]
   refine held_skip 11 rfl (by kernel_rfl) (by kernel_rfl) (by kernel_rfl) (fun _ _ _ h => h) (by rfl) (by assumption) ?_
   change wpAnyH _ _ _ _ _ _ _ (Act.put _ (some 29) _) _
   try simp only [Act.put, tkA, tkB, tkC]
   refine held_skip 12 rfl (by kernel_rfl) (by kernel_rfl) (by kernel_rfl) (fun _ _ _ h => h) (by rfl) (by assumption) ?_
   change wpAnyH _ _ _ _ _ _ _ (Act.put _ (some 30) _) _
   try simp only [Act.put, tkA, tkB, tkC]
   refine held_skip 13 rfl (by kernel_rfl) (by kernel_rfl) (by kernel_rfl) (fun _ _ _ h => h) (by rfl) (by assumption) ?_
   change wpAnyH _ _ _ _ _ _ _ (Act.put _ (some 31) _) _
   try simp only [Act.put, tkA, tkB, tkC]
   refine held_skip 14 rfl (by kernel_rfl) (by kernel_rfl) (by kernel_rfl) (fun _ _ _ h => h) (by rfl) (by assumption) ?_
   change wpAnyH _ _ _ _ _ _ _ (Act.put _ (some 32) _) _
   try simp only [Act.put, tkA, tkB, tkC]
   refine held_skip 15 rfl (by kernel_rfl) (by kernel_rfl) (by kernel_rfl) (fun _ _ _ h => h) (by rfl) (by assumption) ?_
   change wpAnyH _ _ _ _ _ _ _ (Act.put _ (some 33) _) _
   try simp only [Act.put, tkA, tkB, tkC]
   refine held_skip 16 rfl (by kernel_rfl) (by kernel_rfl) (by kernel_rfl) (fun _ _ _ h => h) (by rfl) (by assumption) ?_
   change wpAnyH _ _ _ _ _ _ _ (Act.put _ (some 34) _) _
   try simp only [Act.put, tkA, tkB, tkC]
   refine held_skip 17 rfl (by kernel_rfl) (by kernel_rfl) (by kernel_rfl) (fun _ _ _ h => h) (by rfl) (by assumption) ?_
   change wpAnyH _ _ _ _ _ _ _ (Act.put _ (some 35) _) _
   try simp only [Act.put, tkA, tkB, tkC]
   refine held_skip 18 rfl (by kernel_rfl) (by kernel_rfl) (by kernel_rfl) (fun _ _ _ h => h) (by rfl) (by assumption) ?_
   change wpAnyH _ _ _ _ _ _ _ (Act.put _ (some 36) _) _
   try simp only [Act.put, tkA, tkB, tkC]
   refine held_skip 19 rfl (by kernel_rfl) (by kernel_rfl) (by kernel_rfl) (fun _ _ _ h => h) (by rfl) (by assumption) ?_
   change wpAnyH _ _ _ _ _ _ _ (Act.put _ (some 37) _) _
   try simp only [Act.put, tkA, tkB, tkC]
   refine held_skip 20 rfl (by kernel_rfl) (by kernel_rfl) (by kernel_rfl) (fun _ _ _ h => h) (by rfl) (by assumption) ?_
   change wpAnyH _ _ _ _ _ _ _ (Act.put _ (some 38) _) _
   try simp only [Act.put, tkA, tkB, tkC]
   refine held_skip 21 rfl (by kernel_rfl) (by kernel_rfl) (by kernel_rfl) (fun _ _ _ h => h) (by rfl) (by assumption) ?_
   change wpAnyH _ _ _ _ _ _ _ (Act.put _ (some 39) _) _
   try simp only [Act.put, tkA, tkB, tkC]
   refine tk 22 40 (v := ?_) ?_ ?_
   rotate_left
   ·intro w' hSw; clear hSw; go_simp; try (with_reducible rfl)
   try simp only [tkA, tkB, tkC]
   refine tk 23 6 (v := ?_) ?_ ?_
   rotate_left
   ·intro w' hSw; clear hSw; go_simp; try (with_reducible rfl)
   try simp only [tkA, tkB, tkC]
   refine wpAnyH_done (by kernel_rfl) ?_ _
   refine NoPanic.normal ?_
   clear hHeld
   have ub := (uu.out (.cells (opC o Ao co).toArray 43)).b
   obtain ⟨fn, tmps, assign, body, hy, hR⟩ := HY.out (ys.take k) ⟨o, Ao, co⟩ _ (hJ _ wr _ none hJk ⟨ub.os, ub.tape, ub.output, ub.size, fun k hk _ => ub.block k hk⟩ (fun r e => by cases e)) ⟨_, hN.out⟩ (by rw [List.length_take]; omega)
   dsimp only [opEnc, opC] at hy
   have ub := Lib.hid ub
   gi_wp2
   refine hR.mono ?_
   rintro e W6 (⟨rfl, hJ6, hk6⟩ | ⟨rfl, hJx6⟩)
   ·clear hy hR
    gi_wp2
    go_roundw
    case rel => exact ⟨k + 1, rfl, by go_num, hlt, by rw [hT.out]; exact hJ6, HKt.out _ _ _ hKk (HKt.out _ _ _ (HKu.out _ _ hKk ub.out) hk6)⟩
    case measure => simp [intOf]; omega
   ·clear hy hR
    gi_wp2
    exact bodyPost_ret (results_none rfl _ _ _) rfl ⟨⟨_, rfl⟩, .inr ⟨_, hJx6⟩⟩
  ·obtain rfl : k = ys.length := by omega
   have t1 : decide ((ys.length : Int) < (ys.length : Int)) = false := by simp
   rw [List.take_length] at hJk
   gi_wp2
   first | go_ret | go_ret2 | go_end0
   exact ⟨⟨_, rfl⟩, .inl ⟨ys, rfl, hJk⟩⟩
end Go.Proofs.YtcomeidcmcegfaaGreatDoor
