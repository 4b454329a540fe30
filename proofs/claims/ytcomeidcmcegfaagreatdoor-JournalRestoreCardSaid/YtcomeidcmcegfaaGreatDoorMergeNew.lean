/-
  The walk of Merge of layer 51 of a new replica and one operation. Conditions: the operation is readable; the check's steps answer as 'OneSpec' says.
-/
import Derived.Test.YtcomeidcmcegfaaGreatDoorZP
import Derived.Test.YtcomeidcmcegfaaGreatDoorZQ
import Derived.Test.YtcomeidcmcegfaaGreatDoorZO
namespace Go.Proofs.YtcomeidcmcegfaaGreatDoor
open Go.RowKit Go.Shelf
set_option linter.unusedVariables false
set_option linter.unusedSimpArgs false
attribute [local go_sem] Oper.semAt_some
def Hold (p : Prop) : Prop := p
theorem wpListIn_hold {p : Prop} (h : Hold p) : p := h
section
variable {B n : Nat} {W W' : World} {row : Option Nat}
theorem grow_blk {g : Nat} {t : TypeId} {cs : Array Value} (h : Blk W g t cs) (hg : W.grownBy W' row) (hr : ∀ r, row = some r → B ≤ r ∧ ∃ o, W.heap[r]? = some o ∧ o.isCells = false) : Blk W' g t cs :=
 h.kept hg (by
  intro e
  obtain ⟨_, o, ho, hc⟩ := hr g e.symm
  rw [show W.heap[g]? = _ from h] at ho; cases ho; cases hc)
theorem grow_rd {A : Option Addr} {l : List Value} (h : Rd W A l) (hg : W.grownBy W' row) (hr : ∀ r, row = some r → B ≤ r ∧ ∃ o, W.heap[r]? = some o ∧ o.isCells = false) : Rd W' A l := by
 intro hl
 obtain ⟨b, off, e, hb, hc⟩ := h hl
 refine ⟨b, off, e, Nat.lt_of_lt_of_le hb hg.size, fun j u hu => ?_⟩
 have hcj := hc j u hu
 have hk := hg.block b hb (by
  intro e'
  obtain ⟨_, o, ho, hno⟩ := hr b e'.symm
  unfold World.cell? at hcj
  simp only [ho] at hcj
  cases o <;> simp_all [Obj.isCells])
 unfold World.cell? at hcj ⊢
 simp only [hk]; exact hcj
theorem grow_below {w : World} (h : Below n w W) (hg : W.grownBy W' row) (hr : ∀ r, row = some r → B ≤ r ∧ ∃ o, W.heap[r]? = some o ∧ o.isCells = false) (hn : n ≤ B) (hs : n ≤ w.heap.size) : Below n w W' :=
 h.trans ⟨hg.os, hg.tape, hg.output, hg.size, fun k hk => hg.block k (by have := h.size; omega) (by intro e; have := (hr k e.symm).1; omega)⟩
end
structure KpX (N0 G : Nat) (W W' : World) : Prop where
 os : W'.os = W.os
 tape : W'.tape = W.tape
 output : W'.output = W.output
 size : W.heap.size ≤ W'.heap.size
 block : ∀ k, k < N0 → k ≠ G → W'.heap[k]? = W.heap[k]?
section
variable {N0 G : Nat} {A B C W W' : World}
theorem KpX.refl (W : World) : KpX N0 G W W := ⟨rfl, rfl, rfl, Nat.le_refl _, fun _ _ _ => rfl⟩
theorem KpX.trans (h : KpX N0 G A B) (k : KpX N0 G B C) : KpX N0 G A C := ⟨k.os.trans h.os, k.tape.trans h.tape, k.output.trans h.output, Nat.le_trans h.size k.size, fun i hi hg => (k.block i hi hg).trans (h.block i hi hg)⟩
theorem KpX.of (h : Below W.heap.size W W') (hn : N0 ≤ W.heap.size) : KpX N0 G W W' := ⟨h.os, h.tape, h.output, h.size, fun k hk _ => h.block k (by omega)⟩
theorem KpX.below {n : Nat} (h : KpX N0 G W W') (hn : n ≤ N0) (hg : n ≤ G) : Below n W W' := ⟨h.os, h.tape, h.output, h.size, fun k hk => h.block k (by omega) (by omega)⟩
theorem KpX.blk {g : Nat} {t : TypeId} {cs : Array Value} (h : KpX N0 G W W') (hb : Blk W g t cs) (hg : g < N0) (hn : g ≠ G) : Blk W' g t cs := (h.block g hg hn).trans hb
theorem KpX.put (W : World) (l : Nat) (o o' : Obj) (hl : N0 ≤ l) (h : W.heap[l]? = some o) (hc : o.isCells = false) (hw : o.isWalk = false) : KpX N0 G W (W.putObj l o') := by
 have b := belowK_b (w := W) (Nat.le_refl W.heap.size)
 refine ⟨rfl, rfl, rfl, Nat.le_of_eq (by simp [World.putObj]), fun k hk _ => World.putObj_heap_other (by omega)⟩
end
theorem OpsRd.kx {N0 G : Nat} {w wl W : World} {A : Option Addr} {xs : List OX} (_ : OpsRd wl A xs) (h : KpX N0 G wl W) (hb : Below w.heap.size w wl) (hn : w.heap.size ≤ N0) (hx : OpsRd w A xs) (hg : w.heap.size ≤ G) : OpsRd W A xs :=
 hx.below (hb.trans (h.below hn hg))
theorem grown_set_size (w : World) (g i : Nat) (v : Value) : (w.setCell ⟨g, i, none⟩ v).heap.size = w.heap.size := by simp [World.setCell]
theorem koBelow {W W' : World} (h : Below W.heap.size W W') : KeepsOthers W W' := ⟨h.size, fun k o hk _ => (h.block k (Array.getElem?_eq_some_iff.1 hk).1).trans hk⟩
theorem KpX.setG {N0 G : Nat} (W : World) (i : Nat) (v : Value) : KpX N0 G W (W.setCell ⟨G, i, none⟩ v) := ⟨rfl, rfl, rfl, Nat.le_of_eq (grown_set_size W G i v).symm, fun k _ hn => Below.heap_setCell _ _ _ k hn⟩
theorem put_rd {W : World} {A : Option Addr} {l : List Value} {k : Nat} {o o' : Obj} (h : Rd W A l) (hk : W.heap[k]? = some o) (hc : o.isCells = false) : Rd (W.putObj k o') A l :=
 OwnFrom.putObj (B := 0) (I := fun (_ : Unit) W => Rd W A l) (fun _ W W' row h hg hr => grow_rd h hg hr) (s := ()) o' h (Nat.zero_le _) hk hc
theorem put_blk {W : World} {g : Nat} {t : TypeId} {cs : Array Value} {k : Nat} {o o' : Obj} (h : Blk W g t cs) (hk : W.heap[k]? = some o) (hc : o.isCells = false) : Blk (W.putObj k o') g t cs :=
 OwnFrom.putObj (B := 0) (I := fun (_ : Unit) W => Blk W g t cs) (fun _ W W' row h hg hr => grow_blk h hg hr) (s := ()) o' h (Nat.zero_le _) hk hc
def MrgI (w : World) (G : Nat) (dev : Int) (A : Option Addr) (c : Nat) (Z : List Int) (x : OX) (pre : List OX) (W : World) : Prop :=
 (Blk W (w.heap.size + 1) 27 #[.int .i64 0, .slice none 0 0, .slice none 0 0] ∧ Blk W (w.heap.size + 1 + 1) 28 #[.int .i64 0] ∧ Below w.heap.size w W ∧ w.heap.size + 1 + 1 + 1 ≤ W.heap.size) ∧
 ((pre = [] ∧ Blk W G 27 #[.int .i64 dev, .slice A 15 c, .slice none 0 0] ∧ Rd W A (Z.map I64)) ∨
  (pre = [x] ∧ ∃ A' c' Ao' co', Blk W G 27 #[.int .i64 dev, .slice A' 15 c', .slice Ao' 1 co'] ∧ Rd W A' ((seenOf [x.o]).map I64) ∧ OpsRd W Ao' [x] ∧ 1 ≤ co' ∧ 15 ≤ c' ∧ From A' ((seenOf [x.o]).map I64) (w.heap.size + 1 + 1 + 1) ∧ From Ao' (opsC [x]) (w.heap.size + 1 + 1 + 1)))
theorem MrgI.own {w : World} {G : Nat} {dev : Int} {A : Option Addr} {c : Nat} {Z : List Int} {x : OX} {B : Nat} (hB : w.heap.size ≤ B) : OwnFrom B (MrgI w G dev A c Z x) := by
 rintro pre W W' row ⟨⟨h4, h5, hb, hs⟩, hor⟩ hg hr
 refine ⟨⟨grow_blk h4 hg hr, grow_blk h5 hg hr, grow_below hb hg hr hB (Nat.le_refl _), Nat.le_trans hs hg.size⟩, ?_⟩
 rcases hor with ⟨e, h1, h2⟩ | ⟨e, A', c', Ao', co', h1, h2, h3, h6⟩
 ·exact .inl ⟨e, grow_blk h1 hg hr, grow_rd h2 hg hr⟩
 ·exact .inr ⟨e, A', c', Ao', co', grow_blk h1 hg hr, grow_rd h2 hg hr, ⟨grow_rd h3.rd hg hr, fun y hy => ⟨(h3.ok y hy).bd, grow_rd (h3.ok y hy).rd hg hr, (h3.ok y hy).cap⟩⟩, h6⟩
set_option maxRecDepth 100000 in
set_option maxHeartbeats 16000000 in
theorem merge_one (w : World) (dev : Int) (As : Option Addr) (cs : Nat) (Ao : Option Addr) (co : Nat) (Ax : Option Addr) (cx : Nat) (x : OX) (hx : OpsRd w Ax [x]) (hT : Tabs w) (hF : TabR w)
 (hone : OneSpec [] x.o) (hok : chkE dev [x.o] (seenOf [x.o]) = 0) :
 Calls Tryz.prog 15 #[.agg #[.int .i64 dev, .slice As 15 cs, .slice Ao 0 co], .slice Ax 1 cx] w (RetRep dev (seenOf [x.o]) [x.o] 0 w) := by
 refine (callsIn_wide (n := 6)).1 ?_
 refine callsIn_of_wp_marks Tryz.func15 rfl trivial ?_ rfl
 simp only [Tryz.ntmps15, List.size_toArray, List.length_cons, List.length_nil, Nat.reduceAdd, Nat.reduceSub, Array.replicate_succ, Array.replicate_zero, List.push_toArray, List.append_toArray, List.nil_append, List.cons_append]
 have hZ15 : joinZ.length = 15 := joinN_length _ _ _
 have hBr : Blk (((w.alloc (.cells #[.int .i64 dev, .slice As 15 cs, .slice Ao 0 co] 27)).alloc (.cells #[.int .i64 0, .slice none 0 0, .slice none 0 0] 27)).alloc (.cells #[.int .i64 0] 28)) w.heap.size 27 #[.int .i64 dev, .slice As 15 cs, .slice Ao 0 co] := ((Blk.new w _ _).up (Up.alloc' _ _)).up (Up.alloc' _ _)
 have hB4 : Blk (((w.alloc (.cells #[.int .i64 dev, .slice As 15 cs, .slice Ao 0 co] 27)).alloc (.cells #[.int .i64 0, .slice none 0 0, .slice none 0 0] 27)).alloc (.cells #[.int .i64 0] 28)) (w.heap.size + 1) 27 #[.int .i64 0, .slice none 0 0, .slice none 0 0] := by
  have := Blk.new (w.alloc (.cells #[.int .i64 dev, .slice As 15 cs, .slice Ao 0 co] 27)) 27 #[.int .i64 0, .slice none 0 0, .slice none 0 0]
  rw [World.size_alloc] at this
  exact this.up (Up.alloc' _ _)
 have hB5 : Blk (((w.alloc (.cells #[.int .i64 dev, .slice As 15 cs, .slice Ao 0 co] 27)).alloc (.cells #[.int .i64 0, .slice none 0 0, .slice none 0 0] 27)).alloc (.cells #[.int .i64 0] 28)) (w.heap.size + 1 + 1) 28 #[.int .i64 0] := by
  have := Blk.new ((w.alloc (.cells #[.int .i64 dev, .slice As 15 cs, .slice Ao 0 co] 27)).alloc (.cells #[.int .i64 0, .slice none 0 0, .slice none 0 0] 27)) 28 #[.int .i64 0]
  rw [World.size_alloc, World.size_alloc] at this
  exact this
 have hbq : Below w.heap.size w (((w.alloc (.cells #[.int .i64 dev, .slice As 15 cs, .slice Ao 0 co] 27)).alloc (.cells #[.int .i64 0, .slice none 0 0, .slice none 0 0] 27)).alloc (.cells #[.int .i64 0] 28)) := (((Below.refl w.heap.size w).alloc (Nat.le_refl _) _).alloc (by simp) _).alloc (by simp; omega) _
 have hsq : (((w.alloc (.cells #[.int .i64 dev, .slice As 15 cs, .slice Ao 0 co] 27)).alloc (.cells #[.int .i64 0, .slice none 0 0, .slice none 0 0] 27)).alloc (.cells #[.int .i64 0] 28)).heap.size = w.heap.size + 1 + 1 + 1 := by simp
 have HB4 := Lib.hid hB4
 have HB5 := Lib.hid hB5
 have HBR := Lib.hid hBr
 have HBQ := Lib.hid hbq
 have HSQ := Lib.hid hsq
 clear hB4 hB5 hBr hbq hsq
 have kJ : ∀ w', Calls Tryz.prog 23 #[.slice none 0 0, .slice none 0 0] w' (RetInts joinZ w') := fun w' => join_any w' none 0 [] (Rd.nil _ _) (by decide) none 0 [] (Rd.nil _ _) (by decide)
 have HZ : Hid (joinZ = seenOf []) := rfl
 generalize joinZ = Z at *
 gi_wp2
 generalize hwq : ((w.alloc (.cells #[.int .i64 dev, .slice As 15 cs, .slice Ao 0 co] 27)).alloc (.cells #[.int .i64 0, .slice none 0 0, .slice none 0 0] 27)).alloc (.cells #[.int .i64 0] 28) = wq at *
 clear hwq
 have r0 : ∀ w', Up wq w' → w'.cell? ⟨w.heap.size, 0, none⟩ = some (.int .i64 dev) := fun w' u => by rw [(HBR.out.up u).cell]; rfl
 refine wpIn_wide.2 ?_
 refine Code.wp_mono (Q := fun e a' w' => e = .normal ∧ ∃ (G : Nat) (A : Option Addr) (c : Nat), a' = { tmps := #[.agg #[.int .i64 dev, .slice As 15 cs, .slice Ao 0 co], .slice Ax 1 cx, .pointer (some ⟨w.heap.size, 0, none⟩), undef, .pointer (some ⟨w.heap.size + 1, 0, none⟩), .pointer (some ⟨w.heap.size + 1 + 1, 0, none⟩), .pointer (some ⟨G, 0, none⟩), undef, undef, undef, .pointer (some ⟨w.heap.size, 0, none⟩), .int .i64 dev, .slice A 15 c, .agg #[.int .i64 dev, .slice A 15 c, .slice none 0 0], undef, undef, undef, undef, undef, undef, undef, undef, undef, undef, undef, undef, undef, undef, undef, undef, undef, undef, undef, undef, undef, undef, undef, undef, undef, undef, undef, undef, undef, undef, undef, undef, undef, undef, undef, undef, undef, undef, undef, undef, undef, undef, undef, undef, undef, undef, undef, undef, undef, undef, undef, undef], defers := [] } ∧
  Blk w' G 27 #[.int .i64 dev, .slice A 15 c, .slice none 0 0] ∧ Rd w' A (Z.map I64) ∧ Far A (Z.map I64) G ∧ wq.heap.size ≤ G ∧ Up wq w') ?_ ?_
 rotate_left
 refine wp_region_noPanic ?_
 refine wp_region_held_drew (S := fun w' => Up wq w') (by kernel_rfl) (Up.drew wq) (fun hHeld => ?_)
 refine tk 0 10 (v := ?_) ?_ ?_
 rotate_left
 ·intro w' hSw; clear hSw; go_simp; try (with_reducible rfl)
 try simp only [tkA, tkB, tkC]
 refine tk 1 11 (v := ?_) ?_ ?_
 rotate_left
 ·intro w' hS0; go_simp; try (with_reducible rfl)
 try simp only [tkA, tkB, tkC]
 refine wpAnyH_ready (rs := [2, 4]) (by kernel_rfl) (by simp) ?_
 refine AllReadyH.cons rfl (fun K hK => ?_) (AllReadyH.cons rfl (fun K hK => ?_) AllReadyH.nil)
 ·go_simp
  go_at_call 23
  refine (kJ _).mono ?_
  rintro e w2 ⟨A2, c2, rfl, hown2, hb2⟩
  have hu2 : Up wq w2 := (Up.drew _).trans (Up.of hb2)
  refine hK.out _ _ hu2 (fun hHeld => ?_)
  clear hK K
  refine tk 3 13 (v := ?_) ?_ ?_
  rotate_left
  ·intro w' hSw; clear hSw; go_simp; try (with_reducible rfl)
  try simp only [tkA, tkB, tkC]
  refine wpAnyH_ready (rs := [4]) (by kernel_rfl) (by simp) ?_
  refine AllReadyH.cons rfl (fun K hK => ?_) AllReadyH.nil
  go_simp
  refine hK.out _ _ (hu2.trans (Up.alloc' _ _)) (fun hHeld => ?_)
  clear hK K
  refine wpAnyH_ready (rs := [5]) (by kernel_rfl) (by simp) ?_
  refine AllReadyH.cons rfl (fun K hK => ?_) AllReadyH.nil
  go_simp
  refine hK.out _ _ (hu2.trans (Up.alloc' _ _)) (fun hHeld => ?_)
  clear hK K
  refine wpAnyH_done (by kernel_rfl) ?_ _
  refine NoPanic.normal ?_
  clear hHeld
  exact ⟨rfl, _, A2, c2, rfl, Blk.new _ _ _, hown2.rd'.alloc _, Far.of hown2.rd' (Nat.le_refl _), hu2.b.size, hu2.trans (Up.alloc' _ _)⟩
 ·go_simp
  refine hK.out _ _ ((Up.drew _).trans (Up.alloc' _ _)) (fun hHeld => ?_)
  clear hK K
  refine wpAnyH_ready (rs := [2]) (by kernel_rfl) (by simp) ?_
  refine AllReadyH.cons rfl (fun K hK => ?_) AllReadyH.nil
  go_simp
  go_at_call 23
  refine (kJ _).mono ?_
  rintro e w2 ⟨A2, c2, rfl, hown2, hb2⟩
  have hu1 : Up ((wq.drew).alloc (.cells #[.int .i64 0, .slice none 0 0, .slice none 0 0] 27)) w2 := Up.of hb2
  have hu2 : Up wq w2 := ((Up.drew _).trans (Up.alloc' _ _)).trans hu1
  have hG := (Blk.new wq.drew 27 #[.int .i64 0, .slice none 0 0, .slice none 0 0]).up hu1
  have g0 : w2.cell? ⟨wq.heap.size, 0, none⟩ = some (.int .i64 0) := by have := hG.cell 0; exact this
  have g1 : w2.cell? ⟨wq.heap.size, 1, none⟩ = some (.slice none 0 0) := by have := hG.cell 1; exact this
  have g2 : w2.cell? ⟨wq.heap.size, 2, none⟩ = some (.slice none 0 0) := by have := hG.cell 2; exact this
  have e0 : w2.frozen? ⟨wq.heap.size, 0, none⟩ = false := hG.free 0
  have e1 : w2.frozen? ⟨wq.heap.size, 1, none⟩ = false := hG.free 1
  have e2 : w2.frozen? ⟨wq.heap.size, 2, none⟩ = false := hG.free 2
  refine hK.out _ _ hu2 (fun hHeld => ?_)
  clear hK K
  refine tk 3 13 (v := ?_) ?_ ?_
  rotate_left
  ·intro w' hSw; clear hSw; go_simp; try (with_reducible rfl)
  try simp only [tkA, tkB, tkC]
  refine wpAnyH_ready (rs := [5]) (by kernel_rfl) (by simp) ?_
  refine AllReadyH.cons rfl (fun K hK => ?_) AllReadyH.nil
  go_simp
  have hu5 : Up wq (((w2.setCell ⟨wq.heap.size, 0, none⟩ (.int .i64 dev)).setCell ⟨wq.heap.size, 1, none⟩ (.slice A2 15 c2)).setCell ⟨wq.heap.size, 2, none⟩ (.slice none 0 0)) := Up.of (((hu2.b.setCell (p := ⟨wq.heap.size, 0, none⟩) (Nat.le_refl _) _).setCell (p := ⟨wq.heap.size, 1, none⟩) (Nat.le_refl _) _).setCell (p := ⟨wq.heap.size, 2, none⟩) (Nat.le_refl _) _)
  refine hK.out _ _ hu5 (fun hHeld => ?_)
  clear hK K
  refine wpAnyH_done (by kernel_rfl) ?_ _
  refine NoPanic.normal ?_
  clear hHeld
  have hf2 : Far A2 (Z.map I64) wq.heap.size := hown2.far (by show wq.heap.size < (wq.drew.alloc _).heap.size; rw [World.size_alloc]; exact Nat.lt_succ_self _)
  exact ⟨rfl, _, A2, c2, rfl, ((hG.set 0 _).set 1 _).set 2 _, ((hown2.rd'.set hf2 0 _).set hf2 1 _).set hf2 2 _, hf2, Nat.le_refl _, hu5⟩
 rintro e a' w1 ⟨rfl, G, A, c, rfl, hG, hR, hfar, hsG, hu⟩
 have r2 : ∀ w', Up w1 w' → w'.cell? ⟨w.heap.size, 2, none⟩ = some (.slice Ao 0 co) := fun w' u => by rw [(HBR.out.up (hu.trans u)).cell]; rfl
 have hu' := Lib.hid hu
 have hG' := Lib.hid hG
 have hR' := Lib.hid hR
 clear r0 kJ hu hG hR
 gi_wp2
 refine wpIn_wide.2 ?_
 refine wp_region_noPanic ?_
 refine wp_region_held_drew (S := fun w' => Up w1 w') (by kernel_rfl) (Up.drew w1) (fun hHeld => ?_)
 refine tk 0 14 (v := ?_) ?_ ?_
 rotate_left
 ·intro w' hSw; clear hSw; go_simp; try (with_reducible rfl)
 try simp only [tkA, tkB, tkC]
 refine tk 1 15 (v := ?_) ?_ ?_
 rotate_left
 ·intro w' hS0; go_simp; try (with_reducible rfl)
 try simp only [tkA, tkB, tkC]
 refine tk 2 16 (v := ?_) ?_ ?_
 rotate_left
 ·intro w' hSw; clear hSw; go_simp; try (with_reducible rfl)
 try simp only [tkA, tkB, tkC]
 refine wpAnyH_ready (rs := [3]) (by kernel_rfl) (by simp) ?_
 refine AllReadyH.cons rfl (fun K hK => ?_) AllReadyH.nil
 go_simp
 go_at_call 25
 refine (sorted_short _ _ _ _ (by omega)).mono ?_
 rintro e w2 ⟨rfl, rfl⟩
 refine hK.out _ _ hHeld (fun hHeld => ?_)
 clear hK K
 refine wpAnyH_ready (rs := [4]) (by kernel_rfl) (by simp) ?_
 refine AllReadyH.cons rfl (fun K hK => ?_) AllReadyH.nil
 go_simp
 go_at_call 24
 refine (both_any _ _ _ _ _ _ _).mono ?_
 rintro e w2 ⟨rfl, rfl⟩
 refine hK.out _ _ ((hHeld.trans (Up.alloc' _ _)).trans (Up.alloc' _ _)) (fun hHeld => ?_)
 clear hK K
 refine wpAnyH_done (by kernel_rfl) ?_ _
 refine NoPanic.normal ?_
 clear hHeld
 have uL : Up w1 ((w1.drew.alloc (.cells #[.slice Ao 0 co] 25)).alloc (.cells #[.slice Ax 1 cx] 25)) := ((Up.drew w1).trans (Up.alloc' _ _)).trans (Up.alloc' _ _)
 have hBa : Blk ((w1.drew.alloc (.cells #[.slice Ao 0 co] 25)).alloc (.cells #[.slice Ax 1 cx] 25)) w1.heap.size 25 #[.slice Ao 0 co] := (Blk.new w1.drew _ _).up (Up.alloc' _ _)
 have hBb : Blk ((w1.drew.alloc (.cells #[.slice Ao 0 co] 25)).alloc (.cells #[.slice Ax 1 cx] 25)) (w1.heap.size + 1) 25 #[.slice Ax 1 cx] := by
  have := Blk.new (w1.drew.alloc (.cells #[.slice Ao 0 co] 25)) 25 #[.slice Ax 1 cx]
  rw [World.size_alloc] at this
  exact this
 have hGL := hG'.out.up uL
 have hRL := hR'.out.below uL.b
 have h4L := (HB4.out.up hu'.out).up uL
 have h5L := (HB5.out.up hu'.out).up uL
 have hbL : Below w.heap.size w ((w1.drew.alloc (.cells #[.slice Ao 0 co] 25)).alloc (.cells #[.slice Ax 1 cx] 25)) := stepB (stepB HBQ.out hu'.out.b) uL.b
 have hGlt := hG'.out.lt
 have hsG' : w.heap.size + 1 + 1 + 1 ≤ G := by rw [← HSQ.out]; exact hsG
 have hNL : ((w1.drew.alloc (.cells #[.slice Ao 0 co] 25)).alloc (.cells #[.slice Ax 1 cx] 25)).heap.size = w1.heap.size + 1 + 1 := by rw [World.size_alloc, World.size_alloc]; rfl
 have hhw : w1.drew.heap.size = w1.heap.size := rfl
 have hBa' := Lib.hid hBa
 have hBb' := Lib.hid hBb
 have hGL' := Lib.hid hGL
 have hRL' := Lib.hid hRL
 have h4L' := Lib.hid h4L
 have h5L' := Lib.hid h5L
 have hbL' := Lib.hid hbL
 have hNL' := Lib.hid hNL
 have hHW := Lib.hid hhw
 clear uL hBa hBb hGL hRL h4L h5L hbL hNL hhw r2
 generalize ((w1.drew.alloc (.cells #[.slice Ao 0 co] 25)).alloc (.cells #[.slice Ax 1 cx] 25)) = wl at *
 rw [hHW.out]
 clear hHW
 gi_wp2
 refine wpIn_rangeFunc_D rfl (by omega) (gf := 45) (lb := #[.pointer (some ⟨w1.heap.size, 0, none⟩), .pointer (some ⟨w1.heap.size + 1, 0, none⟩)]) rfl trivial (enters_of Tryz.func45 (by kernel_rfl) rfl)
  (encs := opEnc) (Kp := KpX wl.heap.size G) (C := NextIn [x]) (S := fun xs _ => xs = [x]) (N := 1) (w0 := wl)
  (fun l J Jx W hW hJ hJx hY h0 => bothR_in _ (by omega) l w1.heap.size (w1.heap.size + 1) Ao Ax co cx [x] (by simp [maxLen]) (KpX wl.heap.size G) wl KpX.trans (fun h hb => KpX.of hb h.size)
   (fun W' h => ⟨h.blk hBa'.out (by rw [hNL'.out]; omega) (by omega), h.blk hBb'.out (by rw [hNL'.out]; omega) (by omega), (hx.below hbL'.out).kx h hbL'.out (by have := hbL'.out.size; omega) hx (by omega)⟩) J Jx hY W (KpX.of hW (Nat.le_refl _)) hJ hJx h0)
  KpX.trans (fun W l o o' hl' h hc hw => KpX.put W l o o' hl' h hc hw) (fun _ _ _ _ _ _ _ _ h => h) (fun _ _ _ _ _ _ _ h => h) (Below.refl _ _) (fun _ => rfl)
  (MrgI w G dev A c Z x) (fun _ _ _ => False) (MrgI.own (by have := hbL'.out.size; exact this)) (fun _ _ _ _ _ h _ _ => h)
  ⟨⟨h4L'.out, h5L'.out, hbL'.out, by rw [hNL'.out]; omega⟩, .inl ⟨rfl, hGL'.out, hRL'.out⟩⟩
  (fun y W => { tmps := #[.agg #[.int .i64 dev, .slice As 15 cs, .slice Ao 0 co], .slice Ax 1 cx, .pointer (some ⟨w.heap.size, 0, none⟩), undef, .pointer (some ⟨w.heap.size + 1, 0, none⟩), .pointer (some ⟨w.heap.size + 1 + 1, 0, none⟩), .pointer (some ⟨G, 0, none⟩), .pointer (some ⟨W.heap.size, 0, none⟩), undef, undef, .pointer (some ⟨w.heap.size, 0, none⟩), .int .i64 dev, .slice A 15 c, .agg #[.int .i64 dev, .slice A 15 c, .slice none 0 0], .pointer (some ⟨w.heap.size, 2, none⟩), .slice Ao 0 co, .slice Ax 1 cx, .slice Ax 1 cx, .func (.func 45) #[] #[.pointer (some ⟨w1.heap.size, 0, none⟩), .pointer (some ⟨w1.heap.size + 1, 0, none⟩)], .agg (opC y.o y.A y.c).toArray, undef, undef, undef, undef, undef, undef, undef, undef, undef, undef, undef, undef, undef, undef, undef, undef, undef, undef, undef, undef, undef, undef, undef, undef, undef, undef, undef, undef, undef, undef, undef, undef, undef, undef, undef, undef, undef, undef, undef, undef, undef, undef, undef, undef, undef, undef], defers := [] })
  (fun y W => W.alloc (.cells (opC y.o y.A y.c).toArray 43)) (fun y W Y => Blk Y W.heap.size 43 (opC y.o y.A y.c).toArray)
  (fun y W => World.grownBy_alloc W _ none) (fun y W hs => KpX.of ((Below.refl _ _).alloc (Nat.le_refl _) _) hs) (fun _ _ _ h => h)
  (fun y W l o o' h hc => (World.putObj_heap_other (by rintro rfl; rw [heap_alloc_new] at h; cases h; cases hc)).trans (heap_alloc_new W _)) ?assign ?body ?done ?stop
 case assign =>
  intro l y W K hK
  obtain ⟨o, A1, c1⟩ := y
  dsimp only [opC] at hK
  dsimp only [opEnc, opC]
  gi_wp2
  exact hK
 case stop => intro D c pre W _ h; exact h.elim
 case body =>
  rintro l pre y W Y ⟨⟨h4, h5, hB, hsY⟩, hor⟩ hC hF hsz hlen
  obtain rfl : pre = [] := List.eq_nil_of_length_eq_zero (by omega)
  rcases hor with ⟨-, hGb, hRb⟩ | ⟨e, -⟩
  rotate_left
  ·cases e
  obtain rfl : x = y := by
   obtain ⟨s, hs⟩ := hC
   rw [List.nil_append] at hs
   injection hs
  obtain ⟨bd, ro, qo⟩ := hx.ok x (by simp)
  obtain ⟨i0, hi, hz0, hz1, hz2⟩ := info_parts info_op
  have cG1 : Y.cell? ⟨G, 1, none⟩ = some (.slice A 15 c) := by rw [hGb.cell]; rfl
  have cG2 : Y.cell? ⟨G, 2, none⟩ = some (.slice none 0 0) := by rw [hGb.cell]; rfl
  have m0 : Y.cell? ⟨W.heap.size, 0, none⟩ = some (.int .i64 x.o.ac) := by rw [hF.cell]; rfl
  have m1 : Y.cell? ⟨W.heap.size, 1, none⟩ = some (.int .i64 x.o.ad) := by rw [hF.cell]; rfl
  have m2 : Y.cell? ⟨W.heap.size, 2, none⟩ = some (.int .i64 x.o.kd) := by rw [hF.cell]; rfl
  have m3 : Y.cell? ⟨W.heap.size, 3, none⟩ = some (.int .i64 x.o.rc) := by rw [hF.cell]; rfl
  have m4 : Y.cell? ⟨W.heap.size, 4, none⟩ = some (.int .i64 x.o.id) := by rw [hF.cell]; rfl
  have m5 : Y.cell? ⟨W.heap.size, 5, none⟩ = some (.int .i64 x.o.ti) := by rw [hF.cell]; rfl
  have m6 : Y.cell? ⟨W.heap.size, 6, none⟩ = some (.int .i64 x.o.pa) := by rw [hF.cell]; rfl
  have m7 : Y.cell? ⟨W.heap.size, 7, none⟩ = some (.int .i64 x.o.sf) := by rw [hF.cell]; rfl
  have m8 : Y.cell? ⟨W.heap.size, 8, none⟩ = some (.int .i64 x.o.st) := by rw [hF.cell]; rfl
  have m9 : Y.cell? ⟨W.heap.size, 9, none⟩ = some (.int .i64 x.o.rk) := by rw [hF.cell]; rfl
  have m10 : Y.cell? ⟨W.heap.size, 10, none⟩ = some (.string ⟨x.o.nt.toArray⟩) := by rw [hF.cell]; rfl
  have m11 : Y.cell? ⟨W.heap.size, 11, none⟩ = some (.int .i64 x.o.se) := by rw [hF.cell]; rfl
  have m12 : Y.cell? ⟨W.heap.size, 12, none⟩ = some (.int .i64 x.o.nn) := by rw [hF.cell]; rfl
  have m13 : Y.cell? ⟨W.heap.size, 13, none⟩ = some (.string ⟨x.o.tx.toArray⟩) := by rw [hF.cell]; rfl
  have m14 : Y.cell? ⟨W.heap.size, 14, none⟩ = some (.slice x.A x.o.ov.length x.c) := by rw [hF.cell]; rfl
  have hne : some W.heap.size ≠ some G := by
   intro e
   have e := Option.some.inj e
   have h1 := hF
   rw [e] at h1
   have := h1.symm.trans hGb
   simp at this
  have hB' := Lib.hid hB
  have h4' := Lib.hid h4
  have h5' := Lib.hid h5
  have hGb' := Lib.hid hGb
  have hF' := Lib.hid hF
  have hRb' := Lib.hid hRb
  clear hB h4 h5 hGb hF hRb hC
  gi_wp2
  refine wpIn_round_held (S := fun w' => Up Y w') (fun _ _ h => h) (by kernel_rfl) (by kernel_rfl) (Up.drew Y) (fun hHeld => ?_)
  refine tk 0 23 (v := ?_) ?_ ?_
  rotate_left
  ·intro w' hSw; clear hSw; go_simp; try (with_reducible rfl)
  try simp only [tkA, tkB, tkC]
  refine tk 1 24 (v := ?_) ?_ ?_
  rotate_left
  ·intro w' hSw; clear hSw; go_simp; try (with_reducible rfl)
  try simp only [tkA, tkB, tkC]
  refine tk 2 25 (v := ?_) ?_ ?_
  rotate_left
  ·intro w' hSw; clear hSw; go_simp; try (with_reducible rfl)
  try simp only [tkA, tkB, tkC]
  refine held_skip 3 rfl (by kernel_rfl) (by kernel_rfl) (by kernel_rfl) (fun _ _ _ h => h) (by rfl) (by assumption) ?_
  change wpAnyH _ _ _ _ _ _ _ (Act.put _ (some 26) _) _
  try simp only [Act.put, tkA, tkB, tkC]
  refine held_skip 4 rfl (by kernel_rfl) (by kernel_rfl) (by kernel_rfl) (fun _ _ _ h => h) (by rfl) (by assumption) ?_
  change wpAnyH _ _ _ _ _ _ _ (Act.put _ (some 27) _) _
  try simp only [Act.put, tkA, tkB, tkC]
  refine held_skip 5 rfl (by kernel_rfl) (by kernel_rfl) (by kernel_rfl) (fun _ _ _ h => h) (by rfl) (by assumption) ?_
  change wpAnyH _ _ _ _ _ _ _ (Act.put _ (some 28) _) _
  try simp only [Act.put, tkA, tkB, tkC]
  refine held_skip 6 rfl (by kernel_rfl) (by kernel_rfl) (by kernel_rfl) (fun _ _ _ h => h) (by rfl) (by assumption) ?_
  change wpAnyH _ _ _ _ _ _ _ (Act.put _ (some 29) _) _
  try simp only [Act.put, tkA, tkB, tkC]
  refine held_skip 7 rfl (by kernel_rfl) (by kernel_rfl) (by kernel_rfl) (fun _ _ _ h => h) (by rfl) (by assumption) ?_
  change wpAnyH _ _ _ _ _ _ _ (Act.put _ (some 30) _) _
  try simp only [Act.put, tkA, tkB, tkC]
  refine held_skip 8 rfl (by kernel_rfl) (by kernel_rfl) (by kernel_rfl) (fun _ _ _ h => h) (by rfl) (by assumption) ?_
  change wpAnyH _ _ _ _ _ _ _ (Act.put _ (some 31) _) _
  try simp only [Act.put, tkA, tkB, tkC]
  refine held_skip 9 rfl (by kernel_rfl) (by kernel_rfl) (by kernel_rfl) (fun _ _ _ h => h) (by rfl) (by assumption) ?_
  change wpAnyH _ _ _ _ _ _ _ (Act.put _ (some 32) _) _
  try simp only [Act.put, tkA, tkB, tkC]
  refine held_skip 10 rfl (by kernel_rfl) (by kernel_rfl) (by kernel_rfl) (fun _ _ _ h => h) (by rfl) (by assumption) ?_
  change wpAnyH _ _ _ _ _ _ _ (Act.put _ (some 33) _) _
  try simp only [Act.put, tkA, tkB, tkC]
  refine held_skip 11 rfl (by kernel_rfl) (by kernel_rfl) (by kernel_rfl) (fun _ _ _ h => h) (by rfl) (by assumption) ?_
  change wpAnyH _ _ _ _ _ _ _ (Act.put _ (some 34) _) _
  try simp only [Act.put, tkA, tkB, tkC]
  refine held_skip 12 rfl (by kernel_rfl) (by kernel_rfl) (by kernel_rfl) (fun _ _ _ h => h) (by rfl) (by assumption) ?_
  change wpAnyH _ _ _ _ _ _ _ (Act.put _ (some 35) _) _
  try simp only [Act.put, tkA, tkB, tkC]
  refine tk 13 36 (v := ?_) ?_ ?_
  rotate_left
  ·intro w' hSw; clear hSw; go_simp; try (with_reducible rfl)
  try simp only [tkA, tkB, tkC]
  refine wpAnyH_done (by kernel_rfl) ?_ _
  refine NoPanic.normal ?_
  clear hHeld
  obtain ⟨vO, hvO⟩ : ∃ v : Value, v = .slice none 0 0 := ⟨_, rfl⟩
  have cV2 : Y.cell? ⟨G, 2, none⟩ = some vO := by rw [cG2, hvO]
  have hrow : Y.ownsRow (w.heap.size + 1 + 1 + 1) 43 15 vO 0 [] := by rw [hvO]; exact World.ownsRow_nil _ _ _ _
  have HvO := Lib.hid hvO
  clear cG2 hvO
  gi_wp2_with (gi_at_builtin; refine wpListIn_hold ?_)
  unfold Hold
  refine wpListIn_append_own _ rfl _ _ 25 rfl (w.heap.size + 1 + 1 + 1) 43 i0 _ 15 152 Tryz.underlying25 hi hz0 hz1 hz2 rfl (by decide) _ _ _ rfl (hrow.alloc _) ⟨Y.heap.size, 0, none⟩ 1 1 (opC x.o x.A x.c) rfl rfl (fun j u hu => by rw [add_plain, Nat.zero_add]; show (Y.alloc (.cells (opC x.o x.A x.c).toArray 43)).cell? _ = _; rw [cell_of_row _ _ _ _ _ _ (heap_alloc_new Y _)]; simpa [opC] using hu) (fun u hu => by have := List.all_eq_true.1 (show (opC x.o x.A x.c).all (·.oneCell') = true by simp [opC, Value.oneCell']) u hu; exact this) (by unfold maxLen; omega) (by omega) (by simp; omega) ?_
  intro v' w2 hown' hgrow _
  obtain ⟨g', cap', rfl⟩ := ownsRow_succ hown'
  have u2 : Up Y w2 := Up.of (stepB (((Below.refl Y.heap.size Y).alloc (Nat.le_refl _) (.cells (opC x.o x.A x.c).toArray 43)).drew) ⟨hgrow.os, hgrow.tape, hgrow.output, hgrow.size, fun k hk => hgrow.block k hk (by show some k ≠ vO.ownBlock; rw [HvO.out]; simp [Value.ownBlock])⟩)
  have hG2 := hGb'.out.up u2
  have hF2 := hF'.out.up u2
  have k2 : w2.cell? ⟨G, 2, none⟩ = some vO := (by rw [hG2.cell, HvO.out]; rfl)
  have f2 := hG2.free 2
  have k1 : (w2.setCell ⟨G, 2, none⟩ (.slice (some ⟨g', 0, none⟩) (0 + 1) cap')).cell? ⟨G, 1, none⟩ = some (.slice A 15 c) := (by rw [(hG2.set 2 _).cell]; rfl)
  have n0 : (w2.setCell ⟨G, 2, none⟩ (.slice (some ⟨g', 0, none⟩) (0 + 1) cap')).cell? ⟨W.heap.size, 0, none⟩ = some (.int .i64 x.o.ac) := (by rw [(hF2.kept (grown_set w2 G 2 _) hne).cell]; rfl)
  have n1 : (w2.setCell ⟨G, 2, none⟩ (.slice (some ⟨g', 0, none⟩) (0 + 1) cap')).cell? ⟨W.heap.size, 1, none⟩ = some (.int .i64 x.o.ad) := (by rw [(hF2.kept (grown_set w2 G 2 _) hne).cell]; rfl)
  have U2 := Lib.hid u2
  have OW := Lib.hid hown'
  have HG2 := Lib.hid hG2
  clear hgrow u2 hG2 hF2 hown' m0 m1 m2 m3 m4 m5 m6 m7 m8 m9 m10 m11 m12 m13 m14 cG1 cV2 hrow
  have hR5 := ((hRb'.out.below U2.out.b).set hfar 2 (.slice (some ⟨g', 0, none⟩) (0 + 1) cap'))
  have hG5 := HG2.out.set 2 (.slice (some ⟨g', 0, none⟩) (0 + 1) cap')
  have kS := see_any _ A c Z hR5 (by omega) x.o.ac x.o.ad
  unfold RetInts at kS
  simp only [seeL_length, hZ15] at kS
  gi_wp2_with (refine ⟨trivial, ?_⟩; gi_at_call 27; refine (CallsIn.inRound l (callsIn_wide.2 kS)).mono ?_; rintro e w6 ⟨A6, c6, rfl, hown6, hb6⟩; have hG6 := hG5.up (Up.of hb6); have q1 : w6.cell? ⟨G, 1, none⟩ = some (.slice A 15 c) := by { rw [hG6.cell]; rfl }; have f6 := hG6.free 1; have HB6 := Lib.hid hb6; have OW6 := Lib.hid hown6; have HG6 := Lib.hid hG6; have HR5 := Lib.hid hR5; clear hb6 hown6 hG6 hG5 hR5 kS k1 n0 n1 k2 f2)
  have hlY := hGb'.out.lt
  have hl2 := U2.out.b.size
  have hn4 : some (w.heap.size + 1) ≠ some G := by simp; omega
  have hn5 : some (w.heap.size + 1 + 1) ≠ some G := by simp; omega
  have e5 : (w2.setCell ⟨G, 2, none⟩ (.slice (some ⟨g', 0, none⟩) (0 + 1) cap')).heap.size = w2.heap.size := (grown_set_size w2 G 2 _)
  have O2 : Own w2 (w.heap.size + 1 + 1 + 1) 43 15 (.slice (some ⟨g', 0, none⟩) (0 + 1) cap') (0 + 1) (opsC [x]) := .inl (by simpa [opsC, OX.cs] using OW.out)
  have gF : Far (some ⟨g', 0, none⟩) (opsC [x]) G := by
   intro _ b off e hbG
   cases e
   obtain ⟨_, h2⟩ := OW.out
   rcases h2 with ⟨h5, _⟩ | ⟨g2, cap2, cur2, hv2, _, hg2, _⟩
   ·cases h5
   ·injection hv2 with v1
    injection v1 with v1
    injection v1 with v1
    rw [← v1, hbG] at hg2
    have := hg2.symm.trans HG2.out
    simp at this
  have hbF : Below w.heap.size w (w6.setCell ⟨G, 1, none⟩ (.slice A6 15 c6)) := (stepB ((stepB hB'.out U2.out.b).setCell (p := ⟨G, 2, none⟩) (by show w.heap.size ≤ G; omega) _) HB6.out).setCell (p := ⟨G, 1, none⟩) (by show w.heap.size ≤ G; omega) _
  have hS : seenOf [x.o] = seeL Z x.o.ac x.o.ad := by rw [HZ.out]; rfl
  refine ⟨((((koBelow U2.out.b).trans (KeepsOthers.setCell w2 _ _)).trans (koBelow HB6.out)).trans (KeepsOthers.setCell w6 _ _)).from _,
   (((KpX.of U2.out.b hsz).trans (KpX.setG w2 2 _)).trans (KpX.of HB6.out (by rw [e5]; omega))).trans (KpX.setG w6 1 _),
   ⟨(((h4'.out.up U2.out).kept (grown_set w2 G 2 _) hn4).up (Up.of HB6.out)).kept (grown_set w6 G 1 _) hn4, (((h5'.out.up U2.out).kept (grown_set w2 G 2 _) hn5).up (Up.of HB6.out)).kept (grown_set w6 G 1 _) hn5, hbF, by have := HB6.out.size; rw [grown_set_size]; omega⟩,
   .inr ⟨rfl, A6, c6, some ⟨g', 0, none⟩, cap', HG6.out.set 1 _, ?_, ⟨?_, ?_⟩, ?_, ?_, ?_, O2.fromB (Nat.le_refl _)⟩⟩
  ·rw [hS]; exact OW6.out.rd'.set (OW6.out.far (by rw [e5]; omega)) 1 _
  ·exact (((O2.rd'.set gF 2 _).below HB6.out)).set gF 1 _
  ·intro y hy
   rw [List.mem_singleton.1 hy]
   exact ⟨bd, ro.below hbF, qo⟩
  ·obtain ⟨A9, c9, e9, h9, -⟩ := O2.form
   cases e9; exact h9
  ·obtain ⟨A9, c9, e9, h9, -⟩ := OW6.out.form
   cases e9; exact h9
  ·rw [hS]; exact OW6.out.fromB (by rw [e5]; omega)
 case done =>
  rintro D ys W hD rfl ⟨⟨h4, h5, hB, hsY⟩, hor⟩ hK
  rcases hor with ⟨e, -⟩ | ⟨-, A', c', Ao', co', hGb, hRb, hOb, hcb, hcc, hfA, hfO⟩
  ·cases e
  have kC := repCheck_of W dev A' c' (seenOf [x.o]) Ao' co' [x] hRb (by rw [seenOf_len]; unfold maxLen; omega) hOb (hT.below hB) (hF.below hB) (fun k hk => by
   obtain rfl : k = 0 := by simp at hk; omega
   exact hone)
  rw [show opL [x] = [x.o] from rfl, hok, seenOf_len] at kC
  have cG0 : W.cell? ⟨G, 0, none⟩ = some (.int .i64 dev) := by rw [hGb.cell]; rfl
  have cG1 : W.cell? ⟨G, 1, none⟩ = some (.slice A' 15 c') := by rw [hGb.cell]; rfl
  have cG2 : W.cell? ⟨G, 2, none⟩ = some (.slice Ao' 1 co') := by rw [hGb.cell]; rfl
  have kC : Calls Tryz.prog 28 #[.agg #[.int .i64 dev, .slice A' 15 c', .slice Ao' 1 co']] W (RetInt 0 W) := kC
  have hB' := Lib.hid hB
  have h4' := Lib.hid h4
  have h5' := Lib.hid h5
  have hGb' := Lib.hid hGb
  have hRb' := Lib.hid hRb
  have hOb' := Lib.hid hOb
  clear hB h4 h5 hGb hRb hOb
  gi_wp2_with (refine ⟨trivial, ?_⟩; gi_at_call 28; refine wpListIn_hold ?_)
  unfold Hold
  refine (callsIn_wide.2 kC).mono ?_
  rintro e w8 ⟨rfl, hb8⟩
  have u8 := Up.of hb8
  have hG8 := hGb'.out.up u8
  have h48 := h4'.out.up u8
  have h58 := h5'.out.up u8
  have a0 : w8.cell? ⟨G, 0, none⟩ = some (.int .i64 dev) := by rw [hG8.cell]; rfl
  have a1 : w8.cell? ⟨G, 1, none⟩ = some (.slice A' 15 c') := by rw [hG8.cell]; rfl
  have a2 : w8.cell? ⟨G, 2, none⟩ = some (.slice Ao' 1 co') := by rw [hG8.cell]; rfl
  have b0 : w8.cell? ⟨w.heap.size + 1, 0, none⟩ = some (.int .i64 0) := by rw [h48.cell]; rfl
  have b1 : w8.cell? ⟨w.heap.size + 1, 1, none⟩ = some (.slice none 0 0) := by rw [h48.cell]; rfl
  have b2 : w8.cell? ⟨w.heap.size + 1, 2, none⟩ = some (.slice none 0 0) := by rw [h48.cell]; rfl
  have b3 : w8.cell? ⟨w.heap.size + 1 + 1, 0, none⟩ = some (.int .i64 0) := by rw [h58.cell]; rfl
  have f0 := h48.free 0
  have f1 := h48.free 1
  have f2 := h48.free 2
  have f3 := h58.free 0
  have hK8 : w8.heap[D]? = some (.deferred (some [])) := (hb8.block D (Array.getElem?_eq_some_iff.1 hK).1).trans hK
  have hK8 := Lib.hid hK8
  have U8 := Lib.hid u8
  have H48 := Lib.hid h48
  have H58 := Lib.hid h58
  clear kC u8 hG8 h48 h58 hb8 hK cG0 cG1 cG2
  gi_wp2
  have hKF : ((((w8.setCell ⟨w.heap.size + 1, 0, none⟩ (.int .i64 dev)).setCell ⟨w.heap.size + 1, 1, none⟩ (.slice A' 15 c')).setCell ⟨w.heap.size + 1, 2, none⟩ (.slice Ao' 1 co')).setCell ⟨w.heap.size + 1 + 1, 0, none⟩ (.int .i64 0)).heap[D]? = some (.deferred (some [])) := ((((KeepsOthers.setCell w8 _ _).trans (KeepsOthers.setCell _ _ _)).trans (KeepsOthers.setCell _ _ _)).trans (KeepsOthers.setCell _ _ _)).same D _ hK8.out rfl
  have n45 : some (w.heap.size + 1) ≠ some (w.heap.size + 1 + 1) := by simp
  have n54 : some (w.heap.size + 1 + 1) ≠ some (w.heap.size + 1) := by simp
  have h4F : Blk ((((w8.setCell ⟨w.heap.size + 1, 0, none⟩ (.int .i64 dev)).setCell ⟨w.heap.size + 1, 1, none⟩ (.slice A' 15 c')).setCell ⟨w.heap.size + 1, 2, none⟩ (.slice Ao' 1 co')).setCell ⟨w.heap.size + 1 + 1, 0, none⟩ (.int .i64 0)) (w.heap.size + 1) 27 #[.int .i64 dev, .slice A' 15 c', .slice Ao' 1 co'] := (((H48.out.set 0 _).set 1 _).set 2 _).kept (grown_set _ _ _ _) n45
  have h5F : Blk ((((w8.setCell ⟨w.heap.size + 1, 0, none⟩ (.int .i64 dev)).setCell ⟨w.heap.size + 1, 1, none⟩ (.slice A' 15 c')).setCell ⟨w.heap.size + 1, 2, none⟩ (.slice Ao' 1 co')).setCell ⟨w.heap.size + 1 + 1, 0, none⟩ (.int .i64 0)) (w.heap.size + 1 + 1) 28 #[.int .i64 0] := (((H58.out.kept (grown_set _ _ _ _) n54).kept (grown_set _ _ _ _) n54).kept (grown_set _ _ _ _) n54).set 0 _
  have hbF : Below w.heap.size w ((((w8.setCell ⟨w.heap.size + 1, 0, none⟩ (.int .i64 dev)).setCell ⟨w.heap.size + 1, 1, none⟩ (.slice A' 15 c')).setCell ⟨w.heap.size + 1, 2, none⟩ (.slice Ao' 1 co')).setCell ⟨w.heap.size + 1 + 1, 0, none⟩ (.int .i64 0)) := ((((stepB hB'.out U8.out.b).setCell (p := ⟨w.heap.size + 1, 0, none⟩) (by show w.heap.size ≤ w.heap.size + 1; omega) _).setCell (p := ⟨w.heap.size + 1, 1, none⟩) (by show w.heap.size ≤ w.heap.size + 1; omega) _).setCell (p := ⟨w.heap.size + 1, 2, none⟩) (by show w.heap.size ≤ w.heap.size + 1; omega) _).setCell (p := ⟨w.heap.size + 1 + 1, 0, none⟩) (by show w.heap.size ≤ w.heap.size + 1 + 1; omega) _
  have hRF : Rd ((((w8.setCell ⟨w.heap.size + 1, 0, none⟩ (.int .i64 dev)).setCell ⟨w.heap.size + 1, 1, none⟩ (.slice A' 15 c')).setCell ⟨w.heap.size + 1, 2, none⟩ (.slice Ao' 1 co')).setCell ⟨w.heap.size + 1 + 1, 0, none⟩ (.int .i64 0)) A' ((seenOf [x.o]).map I64) := ((((hRb'.out.below U8.out.b).set (hfA.far (by omega)) 0 _).set (hfA.far (by omega)) 1 _).set (hfA.far (by omega)) 2 _).set (hfA.far (by omega)) 0 _
  have hOF : Rd ((((w8.setCell ⟨w.heap.size + 1, 0, none⟩ (.int .i64 dev)).setCell ⟨w.heap.size + 1, 1, none⟩ (.slice A' 15 c')).setCell ⟨w.heap.size + 1, 2, none⟩ (.slice Ao' 1 co')).setCell ⟨w.heap.size + 1 + 1, 0, none⟩ (.int .i64 0)) Ao' (opsC [x]) := ((((hOb'.out.rd.below U8.out.b).set (hfO.far (by omega)) 0 _).set (hfO.far (by omega)) 1 _).set (hfO.far (by omega)) 2 _).set (hfO.far (by omega)) 0 _
  have hDs : w.heap.size ≤ D := by have := hbL'.out.size; omega
  generalize ((((w8.setCell ⟨w.heap.size + 1, 0, none⟩ (.int .i64 dev)).setCell ⟨w.heap.size + 1, 1, none⟩ (.slice A' 15 c')).setCell ⟨w.heap.size + 1, 2, none⟩ (.slice Ao' 1 co')).setCell ⟨w.heap.size + 1 + 1, 0, none⟩ (.int .i64 0)) = wf at *
  have h4P := put_blk (o' := .deferred none) h4F hKF rfl
  have h5P := put_blk (o' := .deferred none) h5F hKF rfl
  have p0 : (wf.putObj D (.deferred none)).cell? ⟨w.heap.size + 1, 0, none⟩ = some (.int .i64 dev) := by rw [h4P.cell]; rfl
  have p1 : (wf.putObj D (.deferred none)).cell? ⟨w.heap.size + 1, 1, none⟩ = some (.slice A' 15 c') := by rw [h4P.cell]; rfl
  have p2 : (wf.putObj D (.deferred none)).cell? ⟨w.heap.size + 1, 2, none⟩ = some (.slice Ao' 1 co') := by rw [h4P.cell]; rfl
  have p3 : (wf.putObj D (.deferred none)).cell? ⟨w.heap.size + 1 + 1, 0, none⟩ = some (.int .i64 0) := by rw [h5P.cell]; rfl
  have hbP : Below w.heap.size w (wf.putObj D (.deferred none)) := hbF.trans (belowK_b (w := w) (Nat.le_refl _) wf D _ (.deferred none) hDs hKF rfl rfl)
  refine ⟨by simp, .inl ⟨_, _, rfl, run_takeDeferred (w := wf) hKF, ?_⟩⟩
  refine ⟨.tuple #[.agg #[.int .i64 dev, .slice A' 15 c', .slice Ao' 1 co'], .int .i64 0], by simp [results, Tryz.results15, go_sem, p0, p1, p2, p3], ?_⟩
  exact ⟨A', c', Ao', co', [x], by rw [seenOf_len]; rfl, put_rd hRF hKF rfl, by rw [seenOf_len]; exact hcc, ⟨put_rd hOF hKF rfl, fun y hy => by rw [List.mem_singleton.1 hy]; have k := hx.ok x (by simp); exact ⟨k.bd, k.rd.below hbP, k.cap⟩⟩, rfl, hcb, hbP, hfA.lower (by omega), hfO.lower (by omega)⟩
end Go.Proofs.YtcomeidcmcegfaaGreatDoor
