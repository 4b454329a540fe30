/-
  A range over a function value where the iterator tells the body something of the memory of each element ('C x W': it holds when x is yielded in W). The library's law hands the body no word on the element; this one is proved out of the library's steps of a loop's record. Conditions: those of the library's law; C stands behind a turn of the loop's own record.
  What Read of layer 53 reads, and the walk of its iterator. Conditions: fewer than a thousand million bytes; utf8's tables lie as their initialisers lay them.
  The walk of Read of layer 53. Conditions: fewer than a thousand million bytes; utf8's tables lie as their initialisers lay them.
-/
import Derived.RangeFuncWrites
import Derived.Test.YtcomeidcmcegfaaGreatDoorBase
import Derived.LoopIn
import Derived.Laws.RangeAny
import Derived.Test.YtcomeidcmcegfaaGreatDoorZH
import Derived.Test.YtcomeidcmcegfaaGreatDoorFrameOpen
import Derived.Test.YtcomeidcmcegfaaGreatDoorZL
namespace Go.Proofs.YtcomeidcmcegfaaGreatDoor
open Go.RowKit
set_option linter.unusedVariables false
section
variable {F : Fence} {n : Nat} {P : Program} {α : Type}
def SeqC (F : Fence) (n : Nat) (P : Program) (g : Nat) (lb : Array Value) (encs : α → Array Value) (Kp : World → World → Prop) (C : List α → α → World → Prop) (S : List α → World → Prop) (N : Nat) (w : World) : Prop :=
 ∀ (l : Nat) (J : List α → World → Prop) (W : World), Below w.heap.size w W → AbidesFrom W.heap.size J →
  (∀ pre x W1, J pre W1 → C pre x W1 → pre.length < N → YieldAt F (n - 1) P l (encs x) W1 fun e W' => e = .returned (.bool true) ∧ J (pre ++ [x]) W' ∧ Kp W1 W') →
  J [] W →
  CallsIn F n P g (#[.func (.yield l) #[] #[]] ++ lb) W fun e W' => (∃ v, e = .returned v) ∧ ∃ xs, S xs W' ∧ J xs W'
def goesOn (B : Nat) (Kp : World → World → Prop) (I : List α → World → Prop) (xs : List α) (W : World) : Exit → Act → World → Prop
 | .normal, _, W' => KeepsFrom B W W' ∧ Kp W W' ∧ I xs W'
 | _, _, _ => False
theorem wpIn_rangeFunc_C {g : Operand} {ps : Array Tmp} {assign body : Code} {Q : Exit → Act → World → Prop} {a : Act} {w : World}
 (hro : F.round = none) (h1 : 1 ≤ n) {gf : Nat} {lb : Array Value} (hg : a.eval g = .func (.func gf) #[] lb) (hFg : F.fn gf) (eg : ∀ args w, (callFunc gf args).run P w = .ok (.enter gf args) w)
 {encs : α → Array Value} {Kp : World → World → Prop} {C : List α → α → World → Prop} {S : List α → World → Prop} {N : Nat} {w0 : World} (hseq : SeqC F (n - 1) P gf lb encs Kp C S N w0)
 (hKt : ∀ {A B C : World}, Kp A B → Kp B C → Kp A C) (hKb : ∀ (W : World) (l : Nat) (o o' : Obj), w.heap.size ≤ l → W.heap[l]? = some o → o.isCells = false → o.isWalk = false → Kp W (W.putObj l o'))
 (hCb : ∀ (pre : List α) (x : α) (W : World) (l : Nat) (o o' : Obj), W.heap[l]? = some o → o.isCells = false → C pre x W → C pre x (W.putObj l o'))
 (hSb : ∀ (xs : List α) (W : World) (l : Nat) (o o' : Obj), W.heap[l]? = some o → o.isCells = false → S xs W → S xs (W.putObj l o'))
 (hb0 : Below w0.heap.size w0 w) (hps : ∀ x, (encs x).size = ps.size)
 (I : List α → World → Prop) (hI : OwnFrom w.heap.size I) (h0 : I [] w) (asg : α → World → Act) (aw : α → World → World) (Fr : α → World → World → Prop)
 (haw : ∀ (x : α) (W : World), W.grownBy (aw x W) none) (hKw : ∀ (x : α) (W : World), w.heap.size ≤ W.heap.size → Kp W (aw x W)) (hCw : ∀ (pre : List α) (x : α) (W : World), C pre x W → C pre x (aw x W)) (hFr : ∀ (x : α) (W : World) (l : Nat) (o o' : Obj), (aw x W).heap[l]? = some o → o.isCells = false → Fr x W ((aw x W).putObj l o'))
 (hassign : ∀ (l : Nat) (x : α) (W : World) (K : Act → World → Prop), K (asg x W) (aw x W) →
  assign.wpIn (F.inRound l) (n - 1 - 1) P (Exit.then K (fun _ _ _ => False)) { tmps := (ps.zip (encs x)).foldl (fun t (p, v) => t.setIfInBounds p v) a.tmps, defers := [] } W)
 (hbody : ∀ (l : Nat) (pre : List α) (x : α) (W Y : World), I pre Y → C pre x Y → Fr x W Y → w.heap.size ≤ Y.heap.size → pre.length < N → body.wpIn (F.inRound l) (n - 1 - 1) P (goesOn w.heap.size Kp I (pre ++ [x]) Y) (asg x W) Y)
 (hdone : ∀ (D : Nat) (xs : List α) (W : World), w.heap.size ≤ D → S xs W → I xs W → W.heap[D]? = some (.deferred (some [])) → Q .normal { a with defers := { target := .collected D, args := #[] } :: a.defers } W) :
 (Code.rangeFunc g ps assign body).wpIn F n P Q a w := by
 -- the two blocks of the loop's own: the deferred calls in block D, the record in block D + 1
 refine wpIn_rangeFunc fun fn hfn => ?_
 rw [hro]
 obtain ⟨rec, hrec⟩ : ∃ rec : LoopState → Option Code → Loop, rec = fun st pe => { state := st, pending := pe, fn, tmps := a.tmps, params := ps, assign, body, defers := w.heap.size } := ⟨_, rfl⟩
 obtain ⟨V, hV⟩ : ∃ V, (w.alloc (.deferred (some []))).alloc (.loop (rec .ready none)) = V := ⟨_, rfl⟩
 have sV : V.heap.size = w.heap.size + 2 := by rw [← hV]; simp
 have rV : V.heap[w.heap.size + 1]? = some (.loop (rec .ready none)) := by
  rw [← hV]; have := World.alloc_heap_new (w.alloc (.deferred (some []))) (.loop (rec .ready none)); rwa [World.size_alloc] at this
 have dV : V.heap[w.heap.size]? = some (.deferred (some [])) := by
  rw [← hV]; exact (Below.heap_alloc _ _ _ (by simp)).trans (World.alloc_heap_new w _)
 have iV : I [] V := by rw [← hV]; exact hI.alloc _ (hI.alloc _ h0)
 have bV : Below w0.heap.size w0 V := by
  rw [← hV]; exact hb0.trans ((((Below.refl _ w).alloc (Nat.le_refl _) _).alloc (by simp) _).mono hb0.size)
 refine ⟨w.heap.size + 1, [{ target := .collected w.heap.size, args := #[] }], V, { target := .fn (.func gf) lb, args := #[.func (.yield (w.heap.size + 1)) #[] #[]] }, V, gf,
  #[.func (.yield (w.heap.size + 1)) #[] #[]] ++ lb, V, ?_, ?_, ?_, ?_, fun _ => h1, ?_⟩
 ·rw [← hV, hrec]; exact run_enterLoop_outer _ _ _ _ _
 ·simp only [resolve, hg]
  simp [go_sem]
 ·intro f' hf'; simp [Target.leads] at hf'; subst hf'; exact hFg
 ·simp [invoke, go_sem, eg]
 -- what the iterator carries: the caller's invariant and the two blocks
 refine (hseq (w.heap.size + 1) (fun pre W => I pre W ∧ W.heap[w.heap.size + 1]? = some (.loop (rec .ready none)) ∧ W.heap[w.heap.size]? = some (.deferred (some []))) V bV ?_ ?_ ⟨iV, rV, dV⟩).mono ?_
 ·rintro s X Y row ⟨hs, hl, hk⟩ hgr hr
  refine ⟨hI s X Y row hs hgr fun r e => ?_, (grownBy_keeps hgr (fun r e => (hr r e).2) hl rfl).trans hl, (grownBy_keeps hgr (fun r e => (hr r e).2) hk rfl).trans hk⟩
  obtain ⟨hB, o, ho, hw⟩ := hr r e
  exact ⟨by omega, o, ho, Obj.not_cells_of_walk hw⟩
 ·rintro pre x W0 ⟨hi0, hl0, hk0⟩ hC0 hlen
  have hy := run_yield (P := P) (args := encs x) hl0 (by rw [hrec]; exact hps x)
  rw [hrec] at hy
  have kw := hKw x W0 (by have := (Array.getElem?_eq_some_iff.1 hl0).1; omega)
  obtain ⟨W, hWe⟩ : ∃ W, aw x W0 = W := ⟨_, rfl⟩
  have gw := haw x W0
  have hC := hCw pre x W0 hC0
  have hF := hFr x W0
  have hi := hI pre W0 _ none hi0 gw (fun r e => by cases e)
  have hl := (gw.block _ (Array.getElem?_eq_some_iff.1 hl0).1 (by simp)).trans hl0
  have hk := (gw.block _ (Array.getElem?_eq_some_iff.1 hk0).1 (by simp)).trans hk0
  rw [hWe] at kw hC hF hi hl hk
  have hlt := (Array.getElem?_eq_some_iff.1 hl).1
  refine ⟨fn, _, assign, body, hy, roundIn_of_wpIn hfn (hassign _ x W0 _ ⟨_, by rw [hWe]; exact run_beginRound hl (by rw [hrec]), ?_⟩)⟩
  obtain ⟨busy, hbusy⟩ : ∃ b : Obj, b = .loop { rec .ready none with state := .busy } := ⟨_, rfl⟩
  have l2 : (W.putObj (w.heap.size + 1) busy).heap[w.heap.size + 1]? = some busy := World.putObj_heap_same hlt
  have k2 : (W.putObj (w.heap.size + 1) busy).heap[w.heap.size]? = some (.deferred (some [])) := (World.putObj_heap_other (by omega)).trans hk
  have w2 : Kp W0 (W.putObj (w.heap.size + 1) busy) := hKt kw (hKb _ _ _ _ (by omega) hl rfl rfl)
  have sz : w.heap.size ≤ (W.putObj (w.heap.size + 1) busy).heap.size := by have := (Array.getElem?_eq_some_iff.1 k2).1; omega
  rw [← hbusy]
  refine wpIn_mono (hbody _ pre x W0 _ (hI.putObj _ hi (by omega) hl rfl) (hCb _ _ _ _ _ _ hl rfl hC) (hF _ _ _ hl rfl) sz hlen) ?_
  rintro e a3 W3 hp
  cases e with
  | normal =>
   obtain ⟨k3, p3, i3⟩ := hp
   have l3 := k3.same _ _ (by omega) l2 (by rw [hbusy]; rfl)
   have hr := run_endRound (P := P) none (by rw [hbusy] at l3; exact l3)
   rw [hrec] at hr ⊢
   have s3 := (Array.getElem?_eq_some_iff.1 l3).1
   refine ⟨_, _, hr, rfl, ⟨hI.putObj _ i3 (by omega) l3 (by rw [hbusy]; rfl), World.putObj_heap_same s3, (World.putObj_heap_other (by omega)).trans (k3.same _ _ (Nat.le_refl _) k2 rfl)⟩, ?_⟩
   exact hKt (hKt w2 p3) (hKb _ _ _ _ (by omega) l3 (by rw [hbusy]; rfl) (by rw [hbusy]; rfl))
  | ret => exact hp.elim
  | exit id => exact hp.elim
  | goto t => exact hp.elim
  | panic ch => exact hp.elim
  | outgrown => exact hp.elim
 ·rintro e W2 ⟨⟨v, rfl⟩, xs, hS, hi, hl, hk⟩
  refine ⟨none, _, by have := run_endLoop (P := P) hl (by rw [hrec]; simp); rw [hrec] at this; exact this, ?_⟩
  exact hdone _ xs _ (Nat.le_refl _) (hSb _ _ _ _ _ hl rfl hS) (hI.putObj _ hi (by omega) hl rfl) ((World.putObj_heap_other (by omega)).trans hk)
end
end Go.Proofs.YtcomeidcmcegfaaGreatDoor
namespace Go.Proofs.YtcomeidcmcegfaaGreatDoor
open Go.RowKit Go.Shelf
set_option linter.unusedVariables false
set_option linter.unusedSimpArgs false
attribute [local go_sem] Oper.semAt_some
def jrB (b : List UInt8) (q : Int) : Bool := frE b q == 0 && (frK b q == 1 && fE (frC b q) == 0)
def jrF (b : List UInt8) : Nat → Int → List (Int × OP) × Int
 | 0, q => ([], q)
 | f + 1, q => if jrB b q = true then ((frT b q, fR (frC b q)) :: (jrF b f (frT b q)).1, (jrF b f (frT b q)).2) else ([], q)
def jr (b : List UInt8) : List (Int × OP) × Int := jrF b (b.length + 1) 0
theorem jrB_next {b : List UInt8} {q : Int} (h : jrB b q = true) : frE b q = 0 ∧ frK b q = 1 ∧ fE (frC b q) = 0 ∧ 0 ≤ q ∧ q + 7 ≤ frT b q ∧ frT b q ≤ b.length := by
 unfold jrB at h
 simp only [Bool.and_eq_true, beq_iff_eq] at h
 obtain ⟨h1, h2, h3⟩ := h
 have := op_next h1
 exact ⟨h1, h2, h3, this.1, this.2.1, this.2.2⟩
theorem jrF_no {b : List UInt8} {f : Nat} {q : Int} (h : jrB b q = false) : jrF b f q = ([], q) := by
 cases f with
 | zero => rfl
 | succ f => rw [jrF, if_neg (by rw [h]; decide)]
theorem jrF_more (b : List UInt8) : ∀ (f g : Nat) (q : Int), (b.length : Int) < q + f → f ≤ g → jrF b g q = jrF b f q := by
 intro f
 induction f with
 | zero =>
  intro g q hq _
  have hf : jrB b q = false := by
   rcases e : jrB b q with _ | _
   ·rfl
   ·have := jrB_next e; omega
  rw [jrF_no hf, jrF_no hf]
 | succ f ih =>
  intro g q hq hg
  obtain ⟨g, rfl⟩ : ∃ k, g = k + 1 := ⟨g - 1, by omega⟩
  rw [jrF, jrF]
  split
  ·rename_i h
   have := jrB_next h
   rw [ih g (frT b q) (by omega) (by omega)]
  ·rfl
theorem jrF_yes {b : List UInt8} {f : Nat} {q : Int} (hq : (b.length : Int) < q + (f + 1 : Nat)) (h : jrB b q = true) :
 jrF b (f + 1) q = ((frT b q, fR (frC b q)) :: (jrF b (f + 1) (frT b q)).1, (jrF b (f + 1) (frT b q)).2) := by
 have := jrB_next h
 rw [jrF, if_pos h, jrF_more b f (f + 1) (frT b q) (by omega) (by omega)]
theorem frC_len (b : List UInt8) (q : Int) (hl : b.length ≤ 1000000000) : (frC b q).length ≤ 1000000000 := by
 by_cases h : frE b q = 0
 ·have := seal_op h
  omega
 ·rcases opE_cases b q with h1 | h1
  ·exact absurd h1 h
  ·unfold frC; rw [h1]; simp
theorem fR_bdJ (l : List UInt8) (hl : l.length ≤ 1000000000) : (fR l).Bd := by
 unfold fR; split
 ·exact fO_bd l hl
 ·exact ⟨⟨by decide, by decide⟩, ⟨by decide, by decide⟩, ⟨by decide, by decide⟩, ⟨by decide, by decide⟩, ⟨by decide, by decide⟩, ⟨by decide, by decide⟩, ⟨by decide, by decide⟩, ⟨by decide, by decide⟩, ⟨by decide, by decide⟩, ⟨by decide, by decide⟩,
   ⟨by decide, by decide⟩, ⟨by decide, by decide⟩, by show 0 ≤ _; omega, by show 0 ≤ _; omega, (by intro p hp; cases hp), by show 0 ≤ _; omega⟩
theorem stepC {n0 : Nat} {w0 w w' : World} (h : Below n0 w0 w) (hn : n0 ≤ w.heap.size) (k : Below w.heap.size w w') : Below n0 w0 w' := h.trans (k.mono hn)
def RdS (w : World) (A : Option Addr) (l : List Value) : Prop := l ≠ [] → ∃ (g : Nat) (cs : Array Value), A = some ⟨g, 0, none⟩ ∧ w.heap[g]? = some (.cells cs 36 (0, 0)) ∧ ∀ (j : Nat) (u : Value), l[j]? = some u → cs[j]? = some u
theorem RdS.nil (w : World) (A : Option Addr) : RdS w A [] := fun h => absurd rfl h
theorem RdS.rd {w : World} {A : Option Addr} {l : List Value} (h : RdS w A l) : Rd w A l := by
 intro hl
 obtain ⟨g, cs, e, hg, hc⟩ := h hl
 refine ⟨g, 0, e, (Array.getElem?_eq_some_iff.1 hg).1, fun j u hu => ?_⟩
 rw [Nat.zero_add, cell_of_row w g j cs 36 (0, 0) hg]; exact hc j u hu
theorem Own.rdS {w : World} {base n : Nat} {A : Option Addr} {c : Nat} {xs : List Value} (h : Own w base 36 2 (.slice A n c) n xs) : RdS w A xs := by
 intro hne
 have hn : 0 < n := by
  rcases Nat.eq_zero_or_pos n with h0 | h0
  ·have := h.len; rw [h0] at this; exact absurd (List.eq_nil_of_length_eq_zero (by omega)) hne
  ·exact h0
 obtain ⟨g, e1, e2, e3, e4⟩ := h.slot hn
 obtain ⟨_, h2⟩ := e4
 rcases h2 with ⟨h5, h0⟩ | ⟨g', cap, cur, hv, hb, hg, hc, hr⟩
 ·omega
 ·injection hv with v1 v2 v3
  injection v1 with v1
  injection v1 with v1
  subst v1
  refine ⟨g, cur, e1, hg, fun j u hu => ?_⟩
  have := (show w.ownsRow base 36 2 (.slice (some ⟨g, 0, none⟩) n c) n xs from ⟨h.len, .inr ⟨g, cap, cur, by rw [v3], hb, hg, hc, hr⟩⟩).cells (g := g) rfl j u hu
  rw [add_plain, Nat.zero_add, cell_of_row w g j cur 36 (0, 0) hg] at this
  exact this
structure KpJ (n0 : Nat) (W W' : World) : Prop where
 b : Below n0 W W'
 t : ∀ (k : Nat) (cs : Array Value) (ty : TypeId) (fr : Nat × Nat), W.heap[k]? = some (Obj.cells cs ty fr) → ty = 36 ∨ ty = 22 → W'.heap[k]? = some (Obj.cells cs ty fr)
theorem KpJ.refl (n0 : Nat) (W : World) : KpJ n0 W W := ⟨Below.refl _ _, fun _ _ _ _ h _ => h⟩
theorem KpJ.trans {n0 : Nat} {A B C : World} (h : KpJ n0 A B) (k : KpJ n0 B C) : KpJ n0 A C := ⟨h.b.trans k.b, fun i cs ty fr hi ht => k.t i cs ty fr (h.t i cs ty fr hi ht) ht⟩
theorem KpJ.up {n0 : Nat} {W W' : World} (h : Below W.heap.size W W') (hn : n0 ≤ W.heap.size) : KpJ n0 W W' := ⟨h.mono hn, fun k cs ty fr hk _ => (h.block k (Array.getElem?_eq_some_iff.1 hk).1).trans hk⟩
theorem KpJ.rdS {n0 : Nat} {W W' : World} {A : Option Addr} {l : List Value} (h : KpJ n0 W W') (hr : RdS W A l) : RdS W' A l := by
 intro hl
 obtain ⟨g, cs, e, hg, hc⟩ := hr hl
 exact ⟨g, cs, e, h.t g cs _ _ hg (.inl rfl), hc⟩
theorem KpJ.put {n0 : Nat} {w : World} (hn : n0 ≤ w.heap.size) (W : World) (l : Nat) (o o' : Obj) (hl : w.heap.size ≤ l) (h : W.heap[l]? = some o) (hc : o.isCells = false) (_ : o.isWalk = false) : KpJ n0 W (W.putObj l o') :=
 ⟨belowK_b hn W l o o' hl h hc (by assumption), fun k cs ty fr hk _ => (World.putObj_heap_other (by
  rintro rfl
  rw [h] at hk; cases hk; simp [Obj.isCells] at hc)).trans hk⟩
structure OX.OkS (W : World) (x : OX) : Prop where
 bd : x.o.Bd
 rd : RdS W x.A (ovL x.o.ov)
 cap : x.o.ov.length ≤ x.c
theorem OX.OkS.kp {n0 : Nat} {W W' : World} {x : OX} (h : x.OkS W) (k : KpJ n0 W W') : x.OkS W' := ⟨h.bd, k.rdS h.rd, h.cap⟩
theorem OX.OkS.ok {W : World} {x : OX} (h : x.OkS W) : x.Ok W := ⟨h.bd, h.rd.rd, h.cap⟩
abbrev jrEnc (y : Int × OX) : Array Value := #[.int .i64 y.1, .agg (opC y.2.o y.2.A y.2.c).toArray]
def JrS (b : List UInt8) (ys : List (Int × OX)) (W : World) : Prop := ys.map (fun y => (y.1, y.2.o)) = (jr b).1 ∧ ∀ y ∈ ys, y.2.OkS W
def JrRel (n0 : Nat) (w0 : World) (Bn : Nat) (A : Option Addr) (c : Nat) (b : List UInt8) (J : List (Int × OX) → World → Prop) (vi : Value) (wr : World) : Prop :=
 ∃ (q : Int) (pre : List (Int × OX)), vi = .int .i64 q ∧ 0 ≤ q ∧ q ≤ b.length ∧ pre.length ≤ q ∧ J pre wr ∧ (∀ y ∈ pre, y.2.OkS wr) ∧ Blk wr Bn 22 #[.slice A b.length c] ∧ Below n0 w0 wr ∧ n0 ≤ wr.heap.size ∧
  Hid ((jr b).1 = pre.map (fun y => (y.1, y.2.o)) ++ (jrF b (b.length + 1) q).1)
set_option maxRecDepth 100000 in
set_option maxHeartbeats 4000000 in
theorem ops1_in (n : Nat) (hn : 1 ≤ n) (l Bn : Nat) (w0 : World) (A : Option Addr) (c : Nat) (b : List UInt8) (hr : Rd w0 A (b.map U8)) (hl : b.length ≤ 1000000000) (hlc : b.length ≤ c) (hT : Tabs w0)
 (J : List (Int × OX) → World → Prop)
 (hY : ∀ pre y W, J pre W → True → pre.length < b.length + 1 → YieldAt Fence.wide (n - 1) Tryz.prog l (jrEnc y) W fun e W' => e = .returned (.bool true) ∧ J (pre ++ [y]) W' ∧ KpJ w0.heap.size W W')
 (W : World) (hW : Below w0.heap.size w0 W) (hWs : w0.heap.size ≤ W.heap.size) (hJ : AbidesFrom W.heap.size J) (hB : Blk W Bn 22 #[.slice A b.length c]) (h0 : J [] W) :
 CallsIn Fence.wide n Tryz.prog 37 #[.func (.yield l) #[] #[], .pointer (some ⟨Bn, 0, none⟩)] W fun e W' => (∃ v, e = .returned v) ∧ ∃ ys, JrS b ys W' ∧ J ys W' := by
 refine callsIn_of_wp Tryz.func37 rfl trivial ?_ rfl
 simp only [Tryz.ntmps37, List.size_toArray, List.length_cons, List.length_nil, Nat.reduceAdd, Nat.reduceSub, Array.replicate_succ, Array.replicate_zero, List.push_toArray, List.append_toArray, List.nil_append, List.cons_append]
 gi_wp2
 gi_loopw [3] (JrRel w0.heap.size w0 Bn A c b J) (fun i _ => b.length + 1 - (intOf i).toNat)
 case atStart =>
  refine ⟨0, [], rfl, Int.le_refl _, by omega, by simp, h0, (by intro y hy; cases hy), hB, hW, hWs, ?_⟩
  rw [Hid]; rfl
 case round =>
  obtain ⟨q, pre, rfl, hq0, hq1, hpq, hJs, hok, hBr, hbe, hns, hK⟩ := hrel
  have cB : wr.cell? ⟨Bn, 0, none⟩ = some (.slice A b.length c) := by rw [hBr.cell]; rfl
  have kO := open_any wr A c b hlc (hr.below hbe) hl q (by omega) (by omega)
  have kF := fun w' A' c' (h : Rd w' A' ((frC b q).map U8)) (hc' : (frC b q).length ≤ c') (t : Tabs w') => from_anyW w' A' c' (frC b q) h (frC_len b q hl) hc' t
  have hbd := fR_bdJ (frC b q) (frC_len b q hl)
  unfold RetOpen at kO
  -- what ends the reading
  have fin : jrB b q = false → ∀ w', Below wr.heap.size wr w' → ∃ ys, JrS b ys w' ∧ J ys w' := fun hf w' hb' =>
   ⟨pre, ⟨by rw [hK.out, jrF_no hf, List.append_nil], fun y hy => (hok y hy).kp (KpJ.up hb' hns)⟩, hJ pre wr w' none hJs ⟨hb'.os, hb'.tape, hb'.output, hb'.size, fun k hk _ => hb'.block k hk⟩ (fun r e => by cases e)⟩
  have fin := Lib.hid fin
  have hok2 := Lib.hid hok
  have HJ : Hid (jrB b q = (frE b q == 0 && (frK b q == 1 && fE (frC b q) == 0))) := rfl
  by_cases e0 : frE b q = 0
  rotate_left
  ·have t1 : (frE b q != 0) = true := by simpa using e0
   have hf : jrB b q = false := by rw [HJ.out, show (frE b q == 0) = false by simpa using e0]; rfl
   have fin := Lib.hid (fin.out hf)
   clear e0 hf HJ kF hbd
   generalize frE b q = E at *
   gi_wp2_with (refine ⟨trivial, ?_⟩; gi_at_call 38; refine (callsIn_wide.2 kO).mono ?_; rintro e w4 ⟨A4, c4, rfl, hr4, hc4, hb4⟩)
   refine bodyPost_ret (results_none rfl _ _ _) rfl ?_
   exact ⟨⟨_, rfl⟩, fin.out _ hb4⟩
  ·rw [e0] at kO
   by_cases e1 : frK b q = 1
   rotate_left
   ·have t1 : (frK b q != 1) = true := by simpa using e1
    have hf : jrB b q = false := by rw [HJ.out, show (frK b q == 1) = false by simpa using e1]; simp
    have fin := Lib.hid (fin.out hf)
    clear e0 e1 hf HJ kF hbd
    generalize frK b q = E at *
    gi_wp2_with (refine ⟨trivial, ?_⟩; gi_at_call 38; refine (callsIn_wide.2 kO).mono ?_; rintro e w4 ⟨A4, c4, rfl, hr4, hc4, hb4⟩)
    refine bodyPost_ret (results_none rfl _ _ _) rfl ?_
    exact ⟨⟨_, rfl⟩, fin.out _ hb4⟩
   ·rw [e1] at kO
    by_cases e2 : fE (frC b q) = 0
    rotate_left
    ·have t1 : (fE (frC b q) != 0) = true := by simpa using e2
     have hf : jrB b q = false := by rw [HJ.out, show (fE (frC b q) == 0) = false by simpa using e2]; simp
     have fin := Lib.hid (fin.out hf)
     clear e0 e1 e2 hf HJ hbd
     generalize fR (frC b q) = o at *
     generalize fE (frC b q) = E at *
     generalize frC b q = L at *
     unfold RetOpW opV opC at kF
     gi_wp2_with (refine ⟨trivial, ?_⟩; gi_at_call 38; refine (callsIn_wide.2 kO).mono ?_; rintro e w4 ⟨A4, c4, rfl, hr4, hc4, hb4⟩)
     gi_wp2_with (refine ⟨trivial, ?_⟩; gi_at_call 39; refine (callsIn_wide.2 (kF _ _ _ hr4 hc4 (hT.below (stepC hbe hns hb4)))).mono ?_; rintro e w5 ⟨A5, c5, rfl, hown5, hb5⟩)
     refine ⟨(fun f h => by cases h), ?_⟩
     gi_wp2
     refine bodyPost_ret (results_none rfl _ _ _) rfl ?_
     exact ⟨⟨_, rfl⟩, fin.out _ (stepB hb4 (stepB hb5 ((Below.refl _ _).alloc (Nat.le_refl _) _)))⟩
    ·have hf : jrB b q = true := by rw [HJ.out, e0, e1, e2]; rfl
     have HN := Lib.hid (jrF_yes (b := b) (f := b.length) (q := q) (by omega) hf)
     obtain ⟨_, _, _, _, q7, q8⟩ := jrB_next hf
     rw [e2] at kF
     clear fin e0 e1 e2 hf HJ
     generalize fR (frC b q) = o at *
     generalize frT b q = T at *
     generalize frC b q = L at *
     unfold RetOpW opV opC at kF
     gi_wp2_with (refine ⟨trivial, ?_⟩; gi_at_call 38; refine (callsIn_wide.2 kO).mono ?_; rintro e w4 ⟨A4, c4, rfl, hr4, hc4, hb4⟩)
     gi_wp2_with (refine ⟨trivial, ?_⟩; gi_at_call 39; refine (callsIn_wide.2 (kF _ _ _ hr4 hc4 (hT.below (stepC hbe hns hb4)))).mono ?_; rintro e w5 ⟨A5, c5, rfl, hown5, hb5⟩; obtain ⟨_, _, e5, hc5, -⟩ := hown5.rd; cases e5; have hb6 : Below wr.heap.size wr (w5.alloc (.cells (opC o A5 c5).toArray 43)) := stepB hb4 (stepB hb5 ((Below.refl _ _).alloc (Nat.le_refl _) _)); have hR6 := hown5.rdS; obtain ⟨fn, tmps, assign, body, hy, hR⟩ := hY pre (T, ⟨o, A5, c5⟩) _ (hJ pre wr _ none hJs ⟨hb6.os, hb6.tape, hb6.output, hb6.size, fun k hk _ => hb6.block k hk⟩ (fun r e => by cases e)) trivial (by omega); dsimp only [jrEnc, opC] at hy)
     refine hR.mono ?_
     rintro e W6 ⟨rfl, hJ6, hk6⟩
     have kk := (KpJ.up hb6 hns).trans hk6
     have hB6 := kk.t _ _ _ _ hBr (.inr rfl)
     have hR7 := hk6.rdS ((KpJ.up (n0 := 0) ((Below.refl w5.heap.size w5).alloc (Nat.le_refl _) _) (Nat.zero_le _)).rdS hR6)
     clear hy hR hR6 hok kF kO hb4 hb5 hb6 hown5
     gi_wp2
     go_roundw
     case rel =>
      refine ⟨T, pre ++ [(T, ⟨o, A5, c5⟩)], rfl, by omega, q8, by simp; omega, hJ6, ?_, hB6, hbe.trans kk.b, Nat.le_trans hns kk.b.size, ?_⟩
      ·intro y hy
       rcases List.mem_append.1 hy with hy | hy
       ·exact (hok2.out y hy).kp kk
       ·rw [List.mem_singleton.1 hy]; exact ⟨hbd, hR7, hc5⟩
      ·rw [Hid, hK.out, HN.out, List.map_append, List.append_assoc]; rfl
     case measure => simp [intOf]; omega
end Go.Proofs.YtcomeidcmcegfaaGreatDoor
namespace Go.Proofs.YtcomeidcmcegfaaGreatDoor
open Go.RowKit Go.Shelf
set_option linter.unusedVariables false
set_option linter.unusedSimpArgs false
attribute [local go_sem] Oper.semAt_some
set_option maxHeartbeats 1000000 in
theorem operations_any (w : World) (A : Option Addr) (n c : Nat) :
 Calls Tryz.prog 20 #[.slice A n c] w fun e w' => e = .returned (.func (.func 37) #[] #[.pointer (some ⟨w.heap.size, 0, none⟩)]) ∧ w.alloc (.cells #[.slice A n c] 22) = w' := by
 go_enter Tryz.func20, Tryz.ntmps20
 go_wp2
 go_ret
 exact ⟨rfl, rfl⟩
def RetJr (b : List UInt8) (w : World) (e : Ending) (w' : World) : Prop :=
 ∃ xs A c, e = .returned (.tuple #[.slice A xs.length c, .int .i64 (jr b).2]) ∧ opL xs = (jr b).1.map (·.2) ∧ OpsRd w' A xs ∧ xs.length ≤ c ∧ Below w.heap.size w w'
def endQ (ys : List (Int × OX)) : Int := ((ys.map (·.1)).getLast?).getD 0
theorem jrF_end (b : List UInt8) : ∀ (f : Nat) (q : Int), (jrF b f q).2 = (((jrF b f q).1.map (·.1)).getLast?).getD q := by
 intro f
 induction f with
 | zero => intro q; rfl
 | succ f ih =>
  intro q
  rcases h : jrB b q with _ | _
  ·rw [jrF_no h]; rfl
  ·rw [jrF, if_pos h]
   show (jrF b f (frT b q)).2 = _
   rw [ih (frT b q)]
   rcases e : (jrF b f (frT b q)).1 with _ | ⟨p, l⟩
   ·rfl
   ·show ((p :: l).map (·.1)).getLast?.getD (frT b q) = (((frT b q, fR (frC b q)) :: p :: l).map (·.1)).getLast?.getD q
    rw [List.map_cons, List.map_cons, List.map_cons, List.getLast?_cons_cons, List.getLast?_cons]; rfl
theorem jr_end {b : List UInt8} {ys : List (Int × OX)} (h : ys.map (fun y => (y.1, y.2.o)) = (jr b).1) : (jr b).2 = endQ ys := by
 unfold jr at h ⊢
 rw [jrF_end, ← h]
 unfold endQ
 rw [List.map_map]; rfl
theorem ownFrom_box {β : Type} (B g : Nat) (t : TypeId) (f : β → Value) : OwnFrom B (fun (s : β) W => Boxed W g t (f s)) := fun s W W' row h hg hr =>
 (hg.block g h.lt (by
  intro e
  obtain ⟨_, o, ho, hc⟩ := hr g e.symm
  rw [show W.heap[g]? = _ from h] at ho; cases ho; cases hc)).trans h
theorem RdS.put {W : World} {A : Option Addr} {l : List Value} {k : Nat} {o o' : Obj} (h : RdS W A l) (ho : W.heap[k]? = some o) (hc : o.isCells = false) : RdS (W.putObj k o') A l := by
 intro hl
 obtain ⟨g, cs, e, hg, hx⟩ := h hl
 exact ⟨g, cs, e, (World.putObj_heap_other (by rintro rfl; rw [hg] at ho; cases ho; cases hc)).trans hg, hx⟩
theorem JrS.put {b : List UInt8} {ys : List (Int × OX)} {W : World} {k : Nat} {o o' : Obj} (h : JrS b ys W) (ho : W.heap[k]? = some o) (hc : o.isCells = false) : JrS b ys (W.putObj k o') :=
 ⟨h.1, fun y hy => ⟨(h.2 y hy).bd, (h.2 y hy).rd.put ho hc, (h.2 y hy).cap⟩⟩
theorem blk_opAtJ {w : World} {b : Nat} {t : TypeId} {o : OP} {A : Option Addr} {c : Nat} (h : Blk w b t (opC o A c).toArray) : OpAt w b o A c := OpAt.of fun j u hu => by rw [h.cell]; simpa using hu
theorem info_op : (Tryz.prog.info? 43).map (fun i => (i.zero, i.size, i.bytes)) = some (some (.agg zero15), 15, 152) := by kernel_rfl
set_option maxRecDepth 100000 in
set_option maxHeartbeats 8000000 in
theorem read_any (w : World) (A : Option Addr) (c : Nat) (b : List UInt8) (hr : Rd w A (b.map U8)) (hl : b.length ≤ 1000000000) (hlc : b.length ≤ c) (hT : Tabs w) : Calls Tryz.prog 10 #[.slice A b.length c] w (RetJr b w) := by
 refine (callsIn_wide (n := 6)).1 ?_
 refine callsIn_of_wp_marks Tryz.func10 rfl trivial ?_ rfl
 simp only [Tryz.ntmps10, List.size_toArray, List.length_cons, List.length_nil, Nat.reduceAdd, Nat.reduceSub, Array.replicate_succ, Array.replicate_zero, List.push_toArray, List.append_toArray, List.nil_append, List.cons_append]
 gi_wp2_with (refine ⟨trivial, ?_⟩; gi_at_call 20; refine (callsIn_wide.2 (operations_any _ _ _ _)).mono ?_; rintro e w' ⟨rfl, rfl⟩)
 have bO := Boxed.new w 25 (.slice none 0 0)
 have bE := Boxed.new (w.alloc (.cells #[.slice none 0 0] 25)) 3 (.int .i64 0)
 rw [World.size_alloc] at bE
 have bN := Boxed.new ((w.alloc (.cells #[.slice none 0 0] 25)).alloc (.cells #[.int .i64 0] 3)) 22 (.slice A b.length c)
 rw [World.size_alloc, World.size_alloc] at bN
 have hB0 : Below w.heap.size w (((w.alloc (.cells #[.slice none 0 0] 25)).alloc (.cells #[.int .i64 0] 3)).alloc (.cells #[.slice A b.length c] 22)) := (((Below.refl _ w).alloc (Nat.le_refl _) _).alloc (by simp) _).alloc (by simp; omega) _
 refine wpIn_rangeFunc_C rfl (by omega) (gf := 37) (lb := #[.pointer (some ⟨w.heap.size + 1 + 1, 0, none⟩)]) rfl trivial (enters_of Tryz.func37 (by kernel_rfl) rfl)
  (encs := jrEnc) (Kp := KpJ w.heap.size) (C := fun _ _ _ => True) (S := JrS b) (N := b.length + 1) (w0 := ((w.alloc (.cells #[.slice none 0 0] 25)).alloc (.cells #[.int .i64 0] 3)).alloc (.cells #[.slice A b.length c] 22))
  (fun l J W hW hJ hY h0 => ops1_in _ (by omega) l (w.heap.size + 1 + 1) w A c b hr hl hlc hT J hY W (hB0.trans (hW.mono hB0.size)) (Nat.le_trans hB0.size hW.size) hJ ((hW.block _ (by simp)).trans bN) h0)
  KpJ.trans (fun W l o o' hl' h hc hw => KpJ.put (w := ((w.alloc (.cells #[.slice none 0 0] 25)).alloc (.cells #[.int .i64 0] 3)).alloc (.cells #[.slice A b.length c] 22)) hB0.size W l o o' hl' h hc hw) (fun _ _ _ _ _ _ _ _ _ => trivial) (fun ys W l o o' h hc hS => hS.put h hc) (Below.refl _ _) (fun _ => rfl)
  (fun pre W => ((∃ v, Boxed W w.heap.size 25 v ∧ W.ownsRow w.heap.size 43 15 v pre.length (opsC (pre.map (·.2))) ∧ True) ∧ Below w.heap.size w W) ∧ Boxed W (w.heap.size + 1) 3 (.int .i64 (endQ pre)))
  (OwnFrom.and (OwnFrom.and (Own.from (holdsRow_own w.heap.size w.heap.size 25 43 15 (fun pre : List (Int × OX) => pre.length) (fun pre => opsC (pre.map (·.2))) (fun _ _ => True)) _) (ownFrom_below (Nat.le_refl _) hB0.size)) (ownFrom_box _ _ _ _))
  ⟨⟨⟨_, (bO.alloc _).alloc _, World.ownsRow_nil _ _ _ _, trivial⟩, hB0⟩, bE.alloc _⟩
  (fun y W => { tmps := #[.slice A b.length c, undef, .slice none 0 0, .int .i64 0, .pointer (some ⟨w.heap.size, 0, none⟩), .pointer (some ⟨w.heap.size + 1, 0, none⟩), .int .i64 y.1, .pointer (some ⟨W.heap.size, 0, none⟩), .slice A b.length c, .func (.func 37) #[] #[.pointer (some ⟨w.heap.size + 1 + 1, 0, none⟩)], .int .i64 y.1, .agg (opC y.2.o y.2.A y.2.c).toArray, undef, undef, undef, undef, undef, undef, undef], defers := [] })
  (fun y W => W.alloc (.cells (opC y.2.o y.2.A y.2.c).toArray 43)) (fun y W Y => Blk Y W.heap.size 43 (opC y.2.o y.2.A y.2.c).toArray)
  (fun y W => World.grownBy_alloc W _ none) (fun y W hs => KpJ.up ((Below.refl _ _).alloc (Nat.le_refl _) _) (Nat.le_trans hB0.size hs)) (fun _ _ _ _ => trivial)
  (fun y W l o o' h hc => (World.putObj_heap_other (by rintro rfl; rw [heap_alloc_new] at h; cases h; cases hc)).trans (heap_alloc_new W _)) ?assign ?body ?done
 case assign =>
  intro l y W K hK
  obtain ⟨q, o, Ao, co⟩ := y
  dsimp only [opC] at hK
  dsimp only [jrEnc, opC]
  gi_wp2
  exact hK
 case body =>
  rintro l pre y W Y ⟨⟨⟨v, hv, hrow, _⟩, hB⟩, hE⟩ _ hF hsz hlen
  obtain ⟨q, o, Ao, co⟩ := y
  dsimp only at hF
  have hc := hv.cell
  have hcE := hE.cell
  have hfE := hE.frozen
  obtain ⟨⟨m0, m1, m2, m3⟩, ⟨m4, m5, m6, m7, m8, m9, m10⟩, ⟨m11, m12, m13, m14⟩⟩ := blk_opAtJ hF
  obtain ⟨i0, hi, hz0, hz1, hz2⟩ := info_parts info_op
  dsimp only [opC]
  gi_wp2_with (gi_at_builtin; refine wpListIn_append_own _ rfl _ _ 25 rfl w.heap.size 43 i0 _ 15 152 Tryz.underlying25 hi hz0 hz1 hz2 rfl (by decide) _ _ _ rfl (hrow.alloc _) ⟨Y.heap.size, 0, none⟩ 1 1 (opC o Ao co) rfl rfl (fun j u hu => by rw [add_plain, Nat.zero_add, cell_of_row _ _ _ _ _ _ (heap_alloc_new Y _)]; simpa [opC] using hu) (fun u hu => by have := List.all_eq_true.1 (show (opC o Ao co).all (·.oneCell') = true by simp [opC, Value.oneCell']) u hu; exact this) (by unfold maxLen; omega) (by omega) (by have := hB.size; simp; omega) ?_; intro v' w2 hown' hgrow _; obtain ⟨g', cap', rfl⟩ := ownsRow_succ hown'; obtain ⟨hv1, hv2, hr2, hk2, hb2⟩ := hv.appended (by decide) hrow hB.size (Nat.le_refl _) hown' hgrow; have hc1 := hv1.cell; have hf1 := hv1.frozen; have hE1 := (hE.alloc _).kept hgrow (hE.not_row (by decide) hrow); have hcE1 := hE1.cell; have hfE1 := hE1.frozen)
  have hE2 := hE1.kept (grownBy_setCell' w2 w.heap.size (.slice (some ⟨g', 0, none⟩) (pre.length + 1) cap')) (by simp)
  have hE3 := hE2.set (.int .i64 q)
  have hv3 := hv2.kept (grownBy_setCell' _ (w.heap.size + 1) (.int .i64 q)) (by simp)
  have hr3 := hr2.kept (grownBy_setCell' _ (w.heap.size + 1) (.int .i64 q)) (.inr (hE2.not_row (by decide) hr2).symm)
  have hk3 := hk2.trans (KeepsOthers.setCell _ ⟨w.heap.size + 1, 0, none⟩ (.int .i64 q))
  have hb3 := hb2.setCell (p := ⟨w.heap.size + 1, 0, none⟩) (by show w.heap.size ≤ w.heap.size + 1; omega) (.int .i64 q)
  have hkp : ∀ (k : Nat) (cs : Array Value) (ty : TypeId) (fr : Nat × Nat), Y.heap[k]? = some (Obj.cells cs ty fr) → ty = 36 ∨ ty = 22 → ((w2.setCell ⟨w.heap.size, 0, none⟩ (.slice (some ⟨g', 0, none⟩) (pre.length + 1) cap')).setCell ⟨w.heap.size + 1, 0, none⟩ (.int .i64 q)).heap[k]? = some (Obj.cells cs ty fr) := by
   intro k cs ty fr hk ht
   have hlt := (Array.getElem?_eq_some_iff.1 hk).1
   have n1 : w.heap.size ≠ k := by
    rintro rfl
    rw [show Y.heap[w.heap.size]? = _ from hv] at hk
    cases hk
    rcases ht with h | h <;> exact absurd h (by decide)
   have n2 : w.heap.size + 1 ≠ k := by
    rintro rfl
    rw [show Y.heap[w.heap.size + 1]? = _ from hE] at hk
    cases hk
    rcases ht with h | h <;> exact absurd h (by decide)
   have n3 : some k ≠ v.ownBlock := by
    rcases hrow.2 with ⟨rfl, _⟩ | ⟨g, cap, cur, rfl, _, hgb, _⟩
    ·simp [Value.ownBlock]
    ·intro e'
     obtain rfl : k = g := by simpa [Value.ownBlock] using e'
     rw [hgb] at hk
     cases hk
     rcases ht with h | h <;> exact absurd h (by decide)
   refine (Below.heap_setCell _ _ _ k n2.symm).trans ((Below.heap_setCell _ _ _ k n1.symm).trans ((hgrow.block k (by simp; omega) n3).trans ((Below.heap_alloc _ _ k hlt).trans hk)))
  refine ⟨hk3.from _, ⟨hb3, hkp⟩, ⟨⟨_, hv3, ?_, trivial⟩, hB.trans hb3⟩, ?_⟩
  ·have e1 : opsC ((pre ++ [(q, (⟨o, Ao, co⟩ : OX))]).map (·.2)) = opsC (pre.map (·.2)) ++ opC o Ao co := by simp [opsC, OX.cs]
   rw [e1, List.length_append]
   exact hr3
  ·rw [show endQ (pre ++ [(q, (⟨o, Ao, co⟩ : OX))]) = q by simp [endQ]]
   exact hE3
 case done =>
  rintro D ys W hD hS ⟨⟨⟨v, hv, hrow, _⟩, hB⟩, hE⟩ hK
  have hc := hv.cell
  have hcE := hE.cell
  obtain ⟨A', c', rfl, hcap, -⟩ := (show Own W w.heap.size 43 15 v ys.length (opsC (ys.map (·.2))) from .inl hrow).rd
  have hrow2 := ownsRow_putObj (W := W.drew) hrow (.deferred none) hK rfl
  obtain ⟨A2, c2, hv2, -, hrd⟩ := (show Own (W.drew.putObj D (.deferred none)) w.heap.size 43 15 (.slice A' ys.length c') ys.length (opsC (ys.map (·.2))) from .inl hrow2).rd
  cases hv2
  have hS2 : JrS b ys (W.drew.putObj D (.deferred none)) := JrS.put (W := W.drew) (show JrS b ys W.drew from ⟨hS.1, fun y hy => ⟨(hS.2 y hy).bd, (hS.2 y hy).rd, (hS.2 y hy).cap⟩⟩) hK rfl
  have hB' : Below w.heap.size w (W.drew.putObj D (.deferred none)) := (hB.drew).trans (belowK_b (w := w) (Nat.le_refl _) W.drew D _ (.deferred none) (Nat.le_trans hB0.size hD) hK rfl rfl)
  have hend := jr_end hS.1
  gi_wp2
  gi_region
  gi_wp2
  refine ⟨by simp, .inl ⟨_, _, rfl, run_takeDeferred (w := W.drew) hK, ?_⟩⟩
  refine ⟨.tuple #[.slice A' ys.length c', .int .i64 (endQ ys)], by simp [results, Tryz.results10, go_sem], ?_⟩
  refine ⟨ys.map (·.2), A', c', by rw [List.length_map, hend], ?_, ⟨hrd, ?_⟩, by rw [List.length_map]; exact hcap, hB'⟩
  ·rw [← hS.1]; simp [opL]
  ·intro x hx
   obtain ⟨y, hy, rfl⟩ := List.mem_map.1 hx
   exact (hS2.2 y hy).ok
end Go.Proofs.YtcomeidcmcegfaaGreatDoor
