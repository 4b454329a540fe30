/-
  Sorting operations by halves, and what a merge keeps behind some of them. Conditions: none; no program in sight.
  'l[:k]' and 'l[k:]' of lists of operations. Conditions: none.
  The walk of sorted of layer 51: the halves sorted, then merged. Conditions: the operations are readable.
  The range over a function value of RangeD, where the body is told too that the caller's invariant held ahead of the round's own boxes. Conditions: those of RangeD's law.
-/
import Derived.Test.YtcomeidcmcegfaaGreatDoorBothG
import Derived.Test.YtcomeidcmcegfaaGreatDoorZO
import Derived.Test.YtcomeidcmcegfaaGreatDoorZAA
import Derived.Test.YtcomeidcmcegfaaGreatDoorZM
import Derived.Test.YtcomeidcmcegfaaGreatDoorMergeNew
import Derived.Test.YtcomeidcmcegfaaGreatDoorZP
namespace Go.Proofs.YtcomeidcmcegfaaGreatDoor
open Go.RowKit
set_option linter.unusedVariables false
def srtF : Nat → List OX → List OX
 | 0, l => l
 | f + 1, l => if l.length < 2 then l else mrgX (srtF f (l.take (l.length / 2))) (srtF f (l.drop (l.length / 2)))
theorem mrgX_perm (xs ys : List OX) : (mrgX xs ys).Perm (xs ++ ys) := mrg_perm _ _ _
theorem srtF_perm : ∀ (f : Nat) (l : List OX), (srtF f l).Perm l
 | 0, l => List.Perm.refl _
 | f + 1, l => by
  rw [srtF]
  split
  ·exact List.Perm.refl _
  ·refine (mrgX_perm _ _).trans (((srtF_perm f _).append (srtF_perm f _)).trans ?_)
   rw [List.take_append_drop]
theorem srtF_len (f : Nat) (l : List OX) : (srtF f l).length = l.length := (srtF_perm f l).length_eq
theorem mem_srtF {f : Nat} {l : List OX} {x : OX} : x ∈ srtF f l ↔ x ∈ l := (srtF_perm f l).mem_iff
theorem srtF_short {f : Nat} {l : List OX} (h : l.length < 2) : srtF f l = l := by
 cases f with
 | zero => rfl
 | succ f => rw [srtF, if_pos h]
theorem srtF_long {f : Nat} {l : List OX} (h : ¬ l.length < 2) : srtF (f + 1) l = mrgX (srtF f (l.take (l.length / 2))) (srtF f (l.drop (l.length / 2))) := by rw [srtF, if_neg h]
theorem opL_mrgX (xs ys : List OX) : opL (mrgX xs ys) = mrg ltO (opL xs) (opL ys) := mrg_map OX.o ltO xs ys
theorem srt_short {l : List OP} (h : l.length < 2) : Srt l := by
 rcases l with _ | ⟨a, _ | ⟨b, l⟩⟩
 ·exact List.Pairwise.nil
 ·exact List.pairwise_cons.2 ⟨by simp, List.Pairwise.nil⟩
 ·simp at h; omega
theorem srtF_srt : ∀ (f : Nat) (l : List OX), l.length ≤ f → Srt (opL (srtF f l))
 | 0, l, h => srt_short (by rw [opL_len, srtF_len]; omega)
 | f + 1, l, h => by
  by_cases h2 : l.length < 2
  ·rw [srtF_short h2]; exact srt_short (by rw [opL_len]; exact h2)
  ·rw [srtF_long h2, opL_mrgX]
   exact mrg_srt _ _ (srtF_srt f _ (by rw [List.length_take]; omega)) (srtF_srt f _ (by rw [List.length_drop]; omega))
theorem opL_perm {xs ys : List OX} (h : xs.Perm ys) : (opL xs).Perm (opL ys) := h.map OX.o
theorem srtF_ref (l : List OX) : dd [] (opL (srtF l.length l)) = refM [] (opL l) := merge_same _ _ (opL_perm (srtF_perm _ _)) (srtF_srt _ _ (Nat.le_refl _))
theorem opL_app (a b : List OX) : opL (a ++ b) = opL a ++ opL b := List.map_append
theorem dd_first (o : OP) (l : List OP) : dd [] (o :: l) = dd [o] l := rfl
theorem dd_new {acc : List OP} {p o : OP} (hp : acc.getLast? = some p) (h : atEq p o = false) (l : List OP) : dd acc (o :: l) = dd (acc ++ [o]) l := by
 rw [dd, hp]; simp only [h]; rfl
theorem dd_skip {acc : List OP} {p o : OP} (hp : acc.getLast? = some p) (h : atEq p o = true) (hs : sameB p o = true) (l : List OP) : dd acc (o :: l) = dd acc l := by
 rw [dd, hp]; simp only [h, hs]; rfl
theorem dd_twice {acc : List OP} {p o : OP} (hp : acc.getLast? = some p) (h : atEq p o = true) (hs : sameB p o = false) (l : List OP) : dd acc (o :: l) = none := by
 rw [dd, hp]; simp only [h, hs]; rfl
end Go.Proofs.YtcomeidcmcegfaaGreatDoor
namespace Go.Proofs.YtcomeidcmcegfaaGreatDoor
open Go.RowKit
set_option linter.unusedVariables false
theorem size_op (w' : World) : (sizeOf (Tryz.prog.elem 25)).run Tryz.prog w' = .ok 15 w' := by
 rw [show Tryz.prog.elem 25 = 43 by kernel_rfl]
 obtain ⟨i0, hi0, hz0, hz1, hz2⟩ := info_parts info_op
 simp [sizeOf, typeInfo, hi0, hz1]
theorem slice_opsH (A : Option Addr) (c n : Nat) (hc : n ≤ c) (h : Int) (k : Nat) (e : h = (k : Int)) (hk : k ≤ n) (w' : World) :
 (Instr.slice 25 (.slice A n c) none (some (.int .i64 h)) none).run Tryz.prog w' = .ok (.slice A k c) w' := by
 subst e
 have hel : Tryz.prog.elem 25 = 43 := by kernel_rfl
 have h1 := run_slice_h (P := Tryz.prog) (w := w') 25 A n c (by rw [hel]; exact Tryz.underlying25) .i64 (k : Int) (by omega) (by omega)
 rw [size_op] at h1
 simp only [Result.andThen_ok, sliced, Int.toNat_natCast, Nat.zero_mul, Nat.sub_zero] at h1
 rw [h1]
 by_cases h0 : c = 0
 ·rw [if_pos h0]
 ·rw [if_neg h0]
  rcases A with _ | a
  ·rfl
  ·show Result.ok (Value.slice (some (a.add 0)) k c) w' = _
   rw [addr_add0]
def offOp (A : Option Addr) (c k : Nat) : Option Addr := if c = k then A else A.map (·.add (k * 15))
theorem slice_opsL (A : Option Addr) (c n : Nat) (hc : n ≤ c) (h : Int) (k : Nat) (e : h = (k : Int)) (hk : k ≤ n) (w' : World) :
 (Instr.slice 25 (.slice A n c) (some (.int .i64 h)) none none).run Tryz.prog w' = .ok (.slice (offOp A c k) (n - k) (c - k)) w' := by
 subst e
 have hel : Tryz.prog.elem 25 = 43 := by kernel_rfl
 have h1 := run_slice_l (P := Tryz.prog) (w := w') 25 A n c (by rw [hel]; exact Tryz.underlying25) .i64 (k : Int) (by omega) (by omega)
 rw [size_op] at h1
 simp only [Result.andThen_ok, sliced, Int.toNat_natCast] at h1
 exact h1
theorem opsC_app (xs ys : List OX) : opsC (xs ++ ys) = opsC xs ++ opsC ys := List.flatMap_append
theorem opsC_size (xs : List OX) : (opsC xs).length = xs.length * 15 := by
 induction xs with
 | nil => rfl
 | cons x xs ih =>
  have e : opsC (x :: xs) = x.cs ++ opsC xs := rfl
  rw [e, List.length_append, OX.cs_len, ih, List.length_cons]; omega
theorem OpsRd.front {w : World} {A : Option Addr} {xs ys : List OX} (h : OpsRd w A (xs ++ ys)) : OpsRd w A xs := by
 refine ⟨fun hne => ?_, fun x hx => h.ok x (List.mem_append_left _ hx)⟩
 obtain ⟨b, off, e, hb, hc⟩ := h.rd (by rw [opsC_app]; intro e; exact hne (List.append_eq_nil_iff.1 e).1)
 refine ⟨b, off, e, hb, fun j u hu => hc j u ?_⟩
 rw [opsC_app, List.getElem?_append_left (List.getElem?_eq_some_iff.1 hu).1]; exact hu
theorem OpsRd.back {w : World} {A : Option Addr} {c : Nat} {xs ys : List OX} (h : OpsRd w A (xs ++ ys)) (hc : (xs ++ ys).length ≤ c) : OpsRd w (offOp A c xs.length) ys := by
 refine ⟨fun hne => ?_, fun x hx => h.ok x (List.mem_append_right _ hx)⟩
 obtain ⟨b, off, e, hb, hcl⟩ := h.rd (by rw [opsC_app]; intro e; exact hne (List.append_eq_nil_iff.1 e).2)
 have hy : 0 < ys.length := by
  rcases ys with _ | ⟨y, ys⟩
  ·exact absurd rfl hne
  ·simp
 rw [List.length_append] at hc
 subst e
 refine ⟨b, off + xs.length * 15, ?_, hb, fun j u hu => ?_⟩
 ·unfold offOp
  rw [if_neg (by omega)]
  show some ((⟨b, off, none⟩ : Addr).add _) = _
  rw [add_plain]
 ·rw [Nat.add_assoc]
  refine hcl _ u ?_
  rw [opsC_app, List.getElem?_append_right (by rw [opsC_size]; omega), opsC_size, Nat.add_sub_cancel_left]; exact hu
theorem OpsRd.takeK {w : World} {A : Option Addr} {xs : List OX} (h : OpsRd w A xs) (k : Nat) : OpsRd w A (xs.take k) := by
 rw [← List.take_append_drop k xs] at h; exact h.front
theorem OpsRd.dropK {w : World} {A : Option Addr} {c : Nat} {xs : List OX} (h : OpsRd w A xs) (hc : xs.length ≤ c) {k : Nat} (hk : k ≤ xs.length) : OpsRd w (offOp A c k) (xs.drop k) := by
 rw [← List.take_append_drop k xs] at h
 have := h.back (c := c) (by rw [List.take_append_drop]; exact hc)
 rwa [List.length_take, Nat.min_eq_left hk] at this
end Go.Proofs.YtcomeidcmcegfaaGreatDoor
namespace Go.Proofs.YtcomeidcmcegfaaGreatDoor
open Go.RowKit Go.Shelf
set_option linter.unusedVariables false
set_option linter.unusedSimpArgs false
attribute [local go_sem] Oper.semAt_some
def Near (A A' : Option Addr) (B : Nat) : Prop := ∀ a', A' = some a' → (∃ a, A = some a ∧ a.block = a'.block) ∨ B ≤ a'.block
def RetSrt (A : Option Addr) (zs : List OX) (w : World) (e : Ending) (w' : World) : Prop := ∃ A' c', e = .returned (.slice A' zs.length c') ∧ OpsRd w' A' zs ∧ zs.length ≤ c' ∧ Below w.heap.size w w' ∧ Near A A' w.heap.size
theorem near_off {A A' : Option Addr} {c k B : Nat} (h : Near (offOp A c k) A' B) : Near A A' B := by
 intro a' e
 rcases h a' e with ⟨a, e', hb⟩ | h'
 ·unfold offOp at e'
  split at e'
  ·exact .inl ⟨a, e', hb⟩
  ·rcases A with _ | a1
   ·cases e'
   ·refine .inl ⟨a1, rfl, ?_⟩
    rw [← hb]
    injection e' with e'
    rw [← e']
    unfold Addr.add; split <;> rfl
 ·exact .inr h'
theorem Near.far {w : World} {A A' : Option Addr} {B g : Nat} {l m : List Value} (h : Near A A' B) (hr : Rd w A l) (hl : l ≠ []) (hg : w.heap.size ≤ g) (hB : g < B) : Far A' m g := by
 intro _ b off e hb
 rcases h _ e with ⟨a, e', h2⟩ | h'
 ·obtain ⟨b', o', e2, hlt, _⟩ := hr hl
  rw [e'] at e2
  injection e2 with e2
  subst e2
  dsimp only at h2
  omega
 ·dsimp only at h'
  omega
theorem Rd.kpx {N0 G : Nat} {wl W : World} {A : Option Addr} {l : List Value} (h : Rd wl A l) (k : KpX N0 G wl W) (hf : Far A l G) (hn : wl.heap.size ≤ N0) : Rd W A l := by
 intro hl
 obtain ⟨b, off, e, hb, hc⟩ := h hl
 refine ⟨b, off, e, Nat.lt_of_lt_of_le hb k.size, fun j u hu => ?_⟩
 have hB := k.block b (by omega) (fun e' => hf hl b off e e')
 have := hc j u hu
 unfold World.cell? at this ⊢
 simp only [hB]; exact this
def SrtI (w : World) (N0 : Nat) (pre : List OX) (W : World) : Prop := (∃ v, Blk W w.heap.size 25 #[v] ∧ W.ownsRow N0 43 15 v pre.length (opsC pre)) ∧ Below w.heap.size w W
theorem grow_row {W W' : World} {row : Option Nat} {B N0 n : Nat} {v : Value} {xs : List Value} (h : W.ownsRow N0 43 15 v n xs) (hg : W.grownBy W' row) (hr : ∀ r, row = some r → B ≤ r ∧ ∃ o, W.heap[r]? = some o ∧ o.isCells = false) : W'.ownsRow N0 43 15 v n xs := by
 refine h.kept hg ?_
 rcases h.2 with ⟨rfl, _⟩ | ⟨g, cap, cur, rfl, _, hgb, _⟩
 ·exact .inl rfl
 ·refine .inr fun e' => ?_
  obtain ⟨_, o, ho, hc⟩ := hr g (by simpa [Value.ownBlock] using e'.symm)
  rw [hgb] at ho; cases ho; cases hc
theorem SrtI.own {w : World} {N0 B : Nat} (hB : w.heap.size ≤ B) : OwnFrom B (SrtI w N0) := by
 rintro pre W W' row ⟨⟨v, h1, h2⟩, hb⟩ hg hr
 exact ⟨⟨v, grow_blk h1 hg hr, grow_row h2 hg hr⟩, grow_below hb hg hr hB (Nat.le_refl _)⟩
theorem row_block {W : World} {N0 n : Nat} {v : Value} {xs : List Value} (h : W.ownsRow N0 43 15 v n xs) : ∀ j, v.ownBlock = some j → N0 ≤ j ∧ ∃ cs, W.heap[j]? = some (.cells cs 43 (0, 0)) := by
 intro j ej
 rcases h.2 with ⟨rfl, _⟩ | ⟨g, cap, cur, rfl, hb, hgb, _⟩
 ·simp [Value.ownBlock] at ej
 ·obtain rfl : g = j := by simpa [Value.ownBlock] using ej
  exact ⟨hb, cur, hgb⟩
theorem row_grown {W w2 : World} {n N0 k : Nat} {v : Value} {xs : List Value} {tmp : Obj} (hrow : W.ownsRow N0 43 15 v k xs) (hg : (W.alloc tmp).grownBy w2 v.ownBlock) (hN : N0 ≤ W.heap.size) (hn : n ≤ N0) :
 KeepsOthers W w2 ∧ (∀ G, KpX N0 G W w2) ∧ Below n W w2 := by
 have hrb := row_block hrow
 refine ⟨(KeepsOthers.alloc W tmp).trans (KeepsOthers.of_grownBy hg fun j o ej hj => ?_), fun G => ⟨hg.os, hg.tape, hg.output, Nat.le_trans (by simp) hg.size, fun j hj _ => ?_⟩, ?_⟩
 ·obtain ⟨h1, cs, h2⟩ := hrb j ej
  rw [Below.heap_alloc _ _ _ (Array.getElem?_eq_some_iff.1 h2).1, h2] at hj
  cases hj; rfl
 ·refine (hg.block j (by simp; omega) ?_).trans (Below.heap_alloc _ _ _ (by omega))
  intro e
  have := (hrb j e.symm).1; omega
 ·exact ((Below.refl n W).alloc (by omega) tmp).grown hg (by simp; omega) fun j ej => by have := (hrb j ej).1; omega
set_option maxRecDepth 100000 in
set_option maxHeartbeats 16000000 in
theorem sorted_step (f : Nat) (ih : ∀ (w : World) (A : Option Addr) (c : Nat) (xs : List OX), OpsRd w A xs → xs.length ≤ c → xs.length ≤ 100000000 → xs.length ≤ f + 1 → Calls Tryz.prog 25 #[.slice A xs.length c] w (RetSrt A (srtF f xs) w))
 (w : World) (A : Option Addr) (c : Nat) (xs : List OX) (hx : OpsRd w A xs) (hc : xs.length ≤ c) (hl : xs.length ≤ 100000000) (hf : xs.length ≤ f + 1 + 1) (h2 : ¬ xs.length < 2) :
 Calls Tryz.prog 25 #[.slice A xs.length c] w (RetSrt A (srtF (f + 1) xs) w) := by
 refine (callsIn_wide (n := 6)).1 ?_
 refine callsIn_of_wp_marks Tryz.func25 rfl trivial ?_ rfl
 simp only [Tryz.ntmps25, List.size_toArray, List.length_cons, List.length_nil, Nat.reduceAdd, Nat.reduceSub, Array.replicate_succ, Array.replicate_zero, List.push_toArray, List.append_toArray, List.nil_append, List.cons_append]
 have HS := Lib.hid (srtF_long (f := f) h2)
 have t1 : decide ((xs.length : Int) < 2) = false := decide_eq_false (by omega)
 obtain ⟨k, hk⟩ : ∃ k, xs.length / 2 = k := ⟨_, rfl⟩
 have hk1 : k ≤ xs.length := by omega
 have hq : (xs.length : Int).tdiv 2 = (k : Int) := by rw [Int.tdiv_eq_ediv_of_nonneg (by omega)]; omega
 rw [hk] at HS
 have ihA := fun w' (h : OpsRd w' A (xs.take k)) => ih w' A c (xs.take k) h (by rw [List.length_take]; omega) (by rw [List.length_take]; omega) (by rw [List.length_take]; omega)
 have ihB := fun w' (h : OpsRd w' (offOp A c k) (xs.drop k)) => ih w' (offOp A c k) (c - k) (xs.drop k) h (by rw [List.length_drop]; omega) (by rw [List.length_drop]; omega) (by rw [List.length_drop]; omega)
 unfold RetSrt at ihA ihB
 simp only [srtF_len, List.length_take, List.length_drop, Nat.min_eq_left hk1] at ihA ihB
 have sH := slice_opsH A c xs.length hc (k : Int) k rfl hk1
 have sL := slice_opsL A c xs.length hc (k : Int) k rfl hk1
 have HA := Lib.hid (hx.takeK k)
 have hne : opsC xs ≠ [] := by intro e; have := opsC_size xs; rw [e] at this; simp at this; omega
 have HPm := Lib.hid (show ∀ x ∈ srtF f (xs.take k), x ∈ xs from fun x hx => List.mem_of_mem_take (mem_srtF.1 hx))
 have HQm := Lib.hid (show ∀ x ∈ srtF f (xs.drop k), x ∈ xs from fun x hx => List.mem_of_mem_drop (mem_srtF.1 hx))
 have HMm := Lib.hid (show ∀ x ∈ srtF (f + 1) xs, x ∈ xs from fun x hx => mem_srtF.1 hx)
 have Hne := Lib.hid hne
 clear hne
 have HB := Lib.hid (hx.dropK hc hk1)
 have HP := Lib.hid (show (srtF f (xs.take k)).length = k by rw [srtF_len, List.length_take]; omega)
 have HQ := Lib.hid (show (srtF f (xs.drop k)).length = xs.length - k by rw [srtF_len, List.length_drop])
 have HN := Lib.hid (show (srtF (f + 1) xs).length = xs.length from srtF_len _ _)
 generalize srtF (f + 1) xs = M at *
 generalize srtF f (xs.take k) = P at *
 generalize srtF f (xs.drop k) = Q at *
 have hk2 : (0 : Int) ≤ (k : Int) := by omega
 have hkw : IntKind.i64.wrap (k : Int) = (k : Int) := IntWalk.i64_in _ (by omega)
 have H22 := Lib.hid (show 2 ≤ xs.length by omega)
 clear h2 ih hk hf
 gi_wp2
 have hu0 := Lib.hid (Up.alloc' w (.cells #[.slice none 0 0] 25))
 have hG := Lib.hid (Blk.new w 25 #[.slice none 0 0])
 generalize w.alloc (.cells #[.slice none 0 0] 25) = wq at *
 refine wpIn_wide.2 ?_
 refine wp_region_noPanic ?_
 refine wp_region_held_drew (S := fun w' => Up wq w') (by kernel_rfl) (Up.drew wq) (fun hHeld => ?_)
 refine tk 0 9 (v := ?_) ?_ ?_
 rotate_left
 ·intro w' hSw; clear hSw; go_simp; try (with_reducible rfl)
 try simp only [tkA, tkB, tkC]
 refine tk 1 10 (v := ?_) ?_ ?_
 rotate_left
 ·intro w' hSw; clear hSw; go_simp; try (with_reducible rfl)
 try simp only [tkA, tkB, tkC]
 refine tk 2 11 (v := ?_) ?_ ?_
 rotate_left
 ·intro w' hSw; clear hSw; go_simp; try (with_reducible rfl)
 try simp only [tkA, tkB, tkC]
 refine tk 3 12 (v := ?_) ?_ ?_
 rotate_left
 ·intro w' hSw; clear hSw; go_simp; try (with_reducible rfl)
 try simp only [tkA, tkB, tkC]
 refine tk 4 13 (v := ?_) ?_ ?_
 rotate_left
 ·intro w' hS0; go_simp; try (with_reducible rfl)
 try simp only [tkA, tkB, tkC]
 refine tk 6 15 (v := ?_) ?_ ?_
 rotate_left
 ·intro w' hSw; clear hSw; go_simp; try (with_reducible rfl)
 try simp only [tkA, tkB, tkC]
 refine tk 7 16 (v := ?_) ?_ ?_
 rotate_left
 ·intro w' hSw; clear hSw; go_simp; try (with_reducible rfl)
 try simp only [tkA, tkB, tkC]
 refine tk 8 17 (v := ?_) ?_ ?_
 rotate_left
 ·intro w' hSw; clear hSw; go_simp; try (with_reducible rfl)
 try simp only [tkA, tkB, tkC]
 refine tk 9 18 (v := ?_) ?_ ?_
 rotate_left
 ·intro w' hSw; clear hSw; go_simp; try (with_reducible rfl)
 try simp only [tkA, tkB, tkC]
 refine tk 10 19 (v := ?_) ?_ ?_
 rotate_left
 ·intro w' hS0; go_simp; try (with_reducible rfl)
 try simp only [tkA, tkB, tkC]
 refine wpAnyH_ready (rs := [5]) (by kernel_rfl) (by simp) ?_
 refine AllReadyH.cons rfl (fun K hK => ?_) AllReadyH.nil
 go_simp
 go_at_call 25
 refine (ihA _ (HA.out.below (hu0.out.trans hHeld).b)).mono ?_
 rintro e w2 ⟨A2, c2, rfl, hO2, hc2, hb2, hN2⟩
 have hu2 : Up wq w2 := hHeld.trans (Up.of hb2)
 refine hK.out _ _ hu2 (fun hHeld => ?_)
 clear hK K hHeld
 refine wpAnyH_more (S' := fun w' => Up w2 w') (fun w' h => Up.trans hu2 h) _ _ _ _ ?_
 have hHeld := Up.refl w2
 refine wpAnyH_ready (rs := [11]) (by kernel_rfl) (by simp) ?_
 refine AllReadyH.cons rfl (fun K hK => ?_) AllReadyH.nil
 go_simp
 go_at_call 25
 refine (ihB _ (HB.out.below (hu0.out.trans (hu2.trans hHeld)).b)).mono ?_
 rintro e w3 ⟨A3, c3, rfl, hO3, hc3, hb3, hN3⟩
 have hu3 : Up w2 w3 := hHeld.trans (Up.of hb3)
 refine hK.out _ _ hu3 (fun hHeld => ?_)
 clear hK K hHeld
 refine wpAnyH_more (S' := fun w' => Up w3 w') (fun w' h => Up.trans hu3 h) _ _ _ _ ?_
 have hHeld := Up.refl w3
 refine wpAnyH_ready (rs := [12]) (by kernel_rfl) (by simp) ?_
 refine AllReadyH.cons rfl (fun K hK => ?_) AllReadyH.nil
 go_simp
 go_at_call 24
 refine (both_any _ _ _ _ _ _ _).mono ?_
 rintro e w4 ⟨rfl, rfl⟩
 have hu4 := (hHeld.trans (Up.alloc' _ (.cells #[.slice A2 k c2] 25))).trans (Up.alloc' _ (.cells #[.slice A3 (xs.length - k) c3] 25))
 refine hK.out _ _ hu4 (fun hHeld => ?_)
 clear hK K hHeld
 refine wpAnyH_more (S' := fun w' => Up ((w3.alloc (.cells #[.slice A2 k c2] 25)).alloc (.cells #[.slice A3 (xs.length - k) c3] 25)) w') (fun w' h => Up.trans hu4 h) _ _ _ _ ?_
 have hHeld := Up.refl ((w3.alloc (.cells #[.slice A2 k c2] 25)).alloc (.cells #[.slice A3 (xs.length - k) c3] 25))
 refine wpAnyH_done (by kernel_rfl) ?_ _
 refine NoPanic.normal ?_
 clear hHeld
 have fA := Lib.hid (hN2.far (m := opsC P) hx.rd Hne.out (Nat.le_refl _) (by have := hG.out.lt; exact this))
 have fB := Lib.hid ((near_off hN3).far (m := opsC Q) hx.rd Hne.out (Nat.le_refl _) (by have := hG.out.lt; have := hu2.b.size; omega))
 have uL := (hu2.trans hu3).trans hu4
 have hbL := Lib.hid (hu0.out.trans uL).b
 have hGL := Lib.hid (hG.out.up uL)
 have hO2L := Lib.hid (hO2.rd.below (hu3.trans hu4).b)
 have hO3L := Lib.hid (hO3.rd.below hu4.b)
 have hBa := Lib.hid ((Blk.new w3 25 #[.slice A2 k c2]).up (Up.alloc' _ (.cells #[.slice A3 (xs.length - k) c3] 25)))
 have hBb := Blk.new (w3.alloc (.cells #[.slice A2 k c2] 25)) 25 #[.slice A3 (xs.length - k) c3]
 rw [World.size_alloc] at hBb
 have hBb := Lib.hid hBb
 have hNL : Hid (((w3.alloc (.cells #[.slice A2 k c2] 25)).alloc (.cells #[.slice A3 (xs.length - k) c3] 25)).heap.size = w3.heap.size + 1 + 1) := by rw [Hid, World.size_alloc, World.size_alloc]
 have hw3 : w.heap.size < w3.heap.size := by have := hG.out.lt; have := (hu2.trans hu3).b.size; omega
 clear hu2 hu3 hu4 uL hO2 hO3 hb2 hb3 hN2 hN3 ihA ihB sH sL HA HB hG hu0
 generalize ((w3.alloc (.cells #[.slice A2 k c2] 25)).alloc (.cells #[.slice A3 (xs.length - k) c3] 25)) = wl at *
 have ePk := HP.out
 subst ePk
 rw [← HQ.out] at hBb
 have hwl : w.heap.size < wl.heap.size := by have := hNL.out; omega
 gi_wp2
 refine wpIn_rangeFunc_D rfl (by omega) (gf := 45) (lb := #[.pointer (some ⟨w3.heap.size, 0, none⟩), .pointer (some ⟨w3.heap.size + 1, 0, none⟩)]) rfl trivial (enters_of Tryz.func45 (by kernel_rfl) rfl)
  (encs := opEnc) (Kp := KpX wl.heap.size w.heap.size) (C := NextIn M) (S := fun zs _ => zs = M) (N := M.length) (w0 := wl)
  (fun l J Jx W hW hJ hJx hY h0 => bothG_in _ (by omega) l w3.heap.size (w3.heap.size + 1) A2 A3 c2 c3 P Q M HS.out (by unfold maxLen; omega) (by have := HQ.out; unfold maxLen; omega) (KpX wl.heap.size w.heap.size) wl KpX.trans (fun h hb => KpX.of hb h.size)
   (fun W' h => ⟨h.blk hBa.out (by rw [hNL.out]; omega) (by omega), h.blk hBb.out (by rw [hNL.out]; omega) (by omega),
    ⟨hO2L.out.kpx h fA.out (Nat.le_refl _), fun x hx' => (hx.ok x (HPm.out x hx')).below (hbL.out.trans (h.below (Nat.le_of_lt hwl) (Nat.le_refl _)))⟩,
    ⟨hO3L.out.kpx h fB.out (Nat.le_refl _), fun x hx' => (hx.ok x (HQm.out x hx')).below (hbL.out.trans (h.below (Nat.le_of_lt hwl) (Nat.le_refl _)))⟩⟩) J Jx hY W (KpX.of hW (Nat.le_refl _)) hJ hJx h0)
  KpX.trans (fun W l o o' hl' h hc hw => KpX.put W l o o' hl' h hc hw) (fun _ _ _ _ _ _ _ _ h => h) (fun _ _ _ _ _ _ _ h => h) (Below.refl _ _) (fun _ => rfl)
  (SrtI w wl.heap.size) (fun _ _ _ => False) (SrtI.own (Nat.le_of_lt hwl)) (fun _ _ _ _ _ h _ _ => h)
  ⟨⟨_, hGL.out, World.ownsRow_nil _ _ _ _⟩, hbL.out⟩
  (fun y W => { tmps := #[.slice A xs.length c, undef, .slice none 0 0, .pointer (some ⟨w.heap.size, 0, none⟩), .pointer (some ⟨W.heap.size, 0, none⟩), .slice A xs.length c, .int .i64 (xs.length : Int), .bool false, undef, .slice A xs.length c, .slice A xs.length c, .int .i64 (xs.length : Int), .int .i64 (P.length : Int), .slice A P.length c, .slice A2 P.length c2, .slice A xs.length c, .slice A xs.length c, .int .i64 (xs.length : Int), .int .i64 (P.length : Int), .slice (offOp A c P.length) (xs.length - P.length) (c - P.length), .slice A3 (xs.length - P.length) c3, .func (.func 45) #[] #[.pointer (some ⟨w3.heap.size, 0, none⟩), .pointer (some ⟨w3.heap.size + 1, 0, none⟩)], .agg (opC y.o y.A y.c).toArray, undef, undef, undef, undef, undef], defers := [] })
  (fun y W => W.alloc (.cells (opC y.o y.A y.c).toArray 43)) (fun y W Y => Blk Y W.heap.size 43 (opC y.o y.A y.c).toArray)
  (fun y W => World.grownBy_alloc W _ none) (fun y W hs => KpX.of ((Below.refl _ _).alloc (Nat.le_refl _) _) hs) (fun _ _ _ h => h)
  (fun y W l o o' h hc => (World.putObj_heap_other (by rintro rfl; rw [heap_alloc_new] at h; cases h; cases hc)).trans (heap_alloc_new W _)) ?assign ?body ?done ?stop
 case assign =>
  intro l y W K hK
  obtain ⟨o, A1, c1⟩ := y
  dsimp only [opC] at hK
  dsimp only [opEnc, opC]
  gi_wp2
  exact hK
 case stop => intro D c pre W _ h; exact h.elim
 case body =>
  rintro l pre y W Y ⟨⟨v, hGb, hrow⟩, hB⟩ hC hF hsz hlen
  obtain ⟨o, Ao, co⟩ := y
  dsimp only at hF
  have cG : Y.cell? ⟨w.heap.size, 0, none⟩ = some v := by rw [hGb.cell]; rfl
  obtain ⟨⟨m0, m1, m2, m3⟩, ⟨m4, m5, m6, m7, m8, m9, m10⟩, ⟨m11, m12, m13, m14⟩⟩ := blk_opAtJ hF
  obtain ⟨i0, hi, hz0, hz1, hz2⟩ := info_parts info_op
  have hbl : pre.length < 100000000 := by have := HN.out; omega
  have hB' := Lib.hid hB
  have hGb' := Lib.hid hGb
  have hGlt := hGb.lt
  have hNE : some w.heap.size ≠ v.ownBlock := by intro e; have := (row_block hrow _ e.symm).1; omega
  have Hrow := Lib.hid hrow
  clear hB hF hC hGb
  dsimp only [opC]
  gi_wp2_with (gi_at_builtin; refine wpListIn_hold ?_)
  unfold Hold
  refine wpListIn_append_own _ rfl _ _ 25 rfl wl.heap.size 43 i0 _ 15 152 Tryz.underlying25 hi hz0 hz1 hz2 rfl (by decide) _ _ _ rfl (hrow.alloc _) ⟨Y.heap.size, 0, none⟩ 1 1 (opC o Ao co) rfl rfl (fun j u hu => by rw [add_plain, Nat.zero_add]; show (Y.alloc (.cells (opC o Ao co).toArray 43)).cell? _ = _; rw [cell_of_row _ _ _ _ _ _ (heap_alloc_new Y _)]; simpa [opC] using hu) (fun u hu => by have := List.all_eq_true.1 (show (opC o Ao co).all (·.oneCell') = true by simp [opC, Value.oneCell']) u hu; exact this) (by unfold maxLen; omega) (by omega) (by simp; omega) ?_
  intro v' w2 hown' hgrow _
  obtain ⟨g', cap', rfl⟩ := ownsRow_succ hown'
  have hk2 := row_grown (n := w.heap.size) hrow hgrow (by omega) (Nat.le_of_lt hwl)
  have hG1 := (hGb'.out.up (Up.alloc' _ _)).kept hgrow hNE
  have k2 : w2.cell? ⟨w.heap.size, 0, none⟩ = some v := by rw [hG1.cell]; rfl
  have f2 := hG1.free 0
  have Hk := Lib.hid hk2
  have HG1 := Lib.hid hG1
  have OW := Lib.hid hown'
  clear hk2 hG1 hown' hgrow hrow m0 m1 m2 m3 m4 m5 m6 m7 m8 m9 m10 m11 m12 m13 m14 cG
  gi_wp2
  refine ⟨(Hk.out.1.trans (KeepsOthers.setCell w2 _ _)).from _, (Hk.out.2.1 _).trans (KpX.setG w2 0 _), ⟨_, HG1.out.set 0 _, ?_⟩, hB'.out.trans (Hk.out.2.2.setCell (p := ⟨w.heap.size, 0, none⟩) (Nat.le_refl _) _)⟩
  rw [opsC_app, List.length_append]
  refine OW.out.kept (grown_set w2 w.heap.size 0 _) (.inr ?_)
  intro e
  have := (row_block OW.out _ e).1
  omega
 case done =>
  rintro D zs W hD rfl ⟨⟨v, hGb, hrow⟩, hB⟩ hK
  have cG : W.cell? ⟨w.heap.size, 0, none⟩ = some v := by rw [hGb.cell]; rfl
  have hOw := (show Own W wl.heap.size 43 15 v zs.length (opsC zs) from .inl hrow)
  obtain ⟨A', c', rfl, hcap, -⟩ := hOw.rd
  have hfr := Lib.hid (hOw.fromB (B := w.heap.size) (Nat.le_of_lt hwl))
  have hrd := Lib.hid (put_rd (o' := .deferred none) hOw.rd' hK rfl)
  have hB' : Hid (Below w.heap.size w (W.putObj D (.deferred none))) := hB.trans (belowK_b (w := w) (Nat.le_refl _) W D _ (.deferred none) (Nat.le_trans (Nat.le_of_lt hwl) hD) hK rfl rfl)
  have hlen := Lib.hid hcap
  clear hOw hB hGb hrow hcap
  gi_wp2
  refine ⟨by simp, .inl ⟨_, _, rfl, run_takeDeferred (w := W) hK, ?_⟩⟩
  refine ⟨.slice A' zs.length c', by simp [results, Tryz.results25, go_sem], ?_⟩
  refine ⟨A', c', rfl, ⟨hrd.out, fun x hx' => (hx.ok x (HMm.out x hx')).below hB'.out⟩, hlen.out, hB'.out, fun a e => .inr ?_⟩
  have hz : opsC zs ≠ [] := by
   intro e
   have h1 := opsC_size zs
   have h2 := HN.out
   have h3 := H22.out
   rw [e] at h1
   simp at h1
   omega
  obtain ⟨b, off, e2, -, -⟩ := hrd.out hz
  rw [e2] at e
  injection e with e
  subst e
  exact hfr.out hz b off e2
theorem sorted_any : ∀ (f : Nat) (w : World) (A : Option Addr) (c : Nat) (xs : List OX), OpsRd w A xs → xs.length ≤ c → xs.length ≤ 100000000 → xs.length ≤ f + 1 → Calls Tryz.prog 25 #[.slice A xs.length c] w (RetSrt A (srtF f xs) w) := by
 have short : ∀ (f : Nat) (w : World) (A : Option Addr) (c : Nat) (xs : List OX), OpsRd w A xs → xs.length ≤ c → xs.length < 2 → Calls Tryz.prog 25 #[.slice A xs.length c] w (RetSrt A (srtF f xs) w) := by
  intro f w A c xs hx hc h
  rw [srtF_short h]
  refine (sorted_short w A xs.length c h).mono ?_
  rintro e w' ⟨rfl, rfl⟩
  exact ⟨A, c, rfl, hx, hc, Below.refl _ _, fun a e => .inl ⟨a, e, rfl⟩⟩
 intro f
 induction f with
 | zero => exact fun w A c xs hx hc _ hf => short 0 w A c xs hx hc (by omega)
 | succ f ih =>
  intro w A c xs hx hc hl hf
  by_cases h2 : xs.length < 2
  ·exact short (f + 1) w A c xs hx hc h2
  ·exact sorted_step f ih w A c xs hx hc hl hf h2
end Go.Proofs.YtcomeidcmcegfaaGreatDoor
namespace Go.Proofs.YtcomeidcmcegfaaGreatDoor
open Go.RowKit
set_option linter.unusedVariables false
section
variable {F : Fence} {n : Nat} {P : Program} {α : Type}
theorem wpIn_rangeFunc_E {g : Operand} {ps : Array Tmp} {assign body : Code} {Q : Exit → Act → World → Prop} {a : Act} {w : World}
 (hro : F.round = none) (h1 : 1 ≤ n) {gf : Nat} {lb : Array Value} (hg : a.eval g = .func (.func gf) #[] lb) (hFg : F.fn gf) (eg : ∀ args w, (callFunc gf args).run P w = .ok (.enter gf args) w)
 {encs : α → Array Value} {Kp : World → World → Prop} {C : List α → α → World → Prop} {S : List α → World → Prop} {N : Nat} {w0 : World} (hseq : SeqD F (n - 1) P gf lb encs Kp C S N w0)
 (hKt : ∀ {A B C : World}, Kp A B → Kp B C → Kp A C) (hKb : ∀ (W : World) (l : Nat) (o o' : Obj), w.heap.size ≤ l → W.heap[l]? = some o → o.isCells = false → o.isWalk = false → Kp W (W.putObj l o'))
 (hCb : ∀ (pre : List α) (x : α) (W : World) (l : Nat) (o o' : Obj), W.heap[l]? = some o → o.isCells = false → C pre x W → C pre x (W.putObj l o'))
 (hSb : ∀ (xs : List α) (W : World) (l : Nat) (o o' : Obj), W.heap[l]? = some o → o.isCells = false → S xs W → S xs (W.putObj l o'))
 (hb0 : Below w0.heap.size w0 w) (hps : ∀ x, (encs x).size = ps.size)
 (I : List α → World → Prop) (Ix : Code → List α → World → Prop) (hI : OwnFrom w.heap.size I) (hIx : ∀ c, OwnFrom w.heap.size (Ix c)) (h0 : I [] w) (asg : α → World → Act) (aw : α → World → World) (Fr : α → World → World → Prop)
 (haw : ∀ (x : α) (W : World), W.grownBy (aw x W) none) (hKw : ∀ (x : α) (W : World), w.heap.size ≤ W.heap.size → Kp W (aw x W)) (hCw : ∀ (pre : List α) (x : α) (W : World), C pre x W → C pre x (aw x W)) (hFr : ∀ (x : α) (W : World) (l : Nat) (o o' : Obj), (aw x W).heap[l]? = some o → o.isCells = false → Fr x W ((aw x W).putObj l o'))
 (hassign : ∀ (l : Nat) (x : α) (W : World) (K : Act → World → Prop), K (asg x W) (aw x W) →
  assign.wpIn (F.inRound l) (n - 1 - 1) P (Exit.then K (fun _ _ _ => False)) { tmps := (ps.zip (encs x)).foldl (fun t (p, v) => t.setIfInBounds p v) a.tmps, defers := [] } W)
 (hbody : ∀ (l : Nat) (pre : List α) (x : α) (W Y : World), I pre W → I pre Y → C pre x Y → Fr x W Y → w.heap.size ≤ Y.heap.size → pre.length < N → body.wpIn (F.inRound l) (n - 1 - 1) P (ownPostG w.heap.size Kp I Ix (pre ++ [x]) Y) (asg x W) Y)
 (hdone : ∀ (D : Nat) (xs : List α) (W : World), w.heap.size ≤ D → S xs W → I xs W → W.heap[D]? = some (.deferred (some [])) → Q .normal { a with defers := { target := .collected D, args := #[] } :: a.defers } W)
 (hstop : ∀ (D : Nat) (c : Code) (pre : List α) (W : World), w.heap.size ≤ D → Ix c pre W → W.heap[D]? = some (.deferred (some [])) → c.wpIn F n P Q { a with defers := { target := .collected D, args := #[] } :: a.defers } W) :
 (Code.rangeFunc g ps assign body).wpIn F n P Q a w := by
 -- the two blocks of the loop's own: the deferred calls in block D, the record in block D + 1
 refine wpIn_rangeFunc fun fn hfn => ?_
 rw [hro]
 obtain ⟨rec, hrec⟩ : ∃ rec : LoopState → Option Code → Loop, rec = fun st pe => { state := st, pending := pe, fn, tmps := a.tmps, params := ps, assign, body, defers := w.heap.size } := ⟨_, rfl⟩
 obtain ⟨V, hV⟩ : ∃ V, (w.alloc (.deferred (some []))).alloc (.loop (rec .ready none)) = V := ⟨_, rfl⟩
 have sV : V.heap.size = w.heap.size + 2 := by rw [← hV]; simp
 have rV : V.heap[w.heap.size + 1]? = some (.loop (rec .ready none)) := by
  rw [← hV]; have := World.alloc_heap_new (w.alloc (.deferred (some []))) (.loop (rec .ready none)); rwa [World.size_alloc] at this
 have dV : V.heap[w.heap.size]? = some (.deferred (some [])) := by
  rw [← hV]; exact (Below.heap_alloc _ _ _ (by simp)).trans (World.alloc_heap_new w _)
 have iV : I [] V := by rw [← hV]; exact hI.alloc _ (hI.alloc _ h0)
 have bV : Below w0.heap.size w0 V := by
  rw [← hV]; exact hb0.trans ((((Below.refl _ w).alloc (Nat.le_refl _) _).alloc (by simp) _).mono hb0.size)
 refine ⟨w.heap.size + 1, [{ target := .collected w.heap.size, args := #[] }], V, { target := .fn (.func gf) lb, args := #[.func (.yield (w.heap.size + 1)) #[] #[]] }, V, gf,
  #[.func (.yield (w.heap.size + 1)) #[] #[]] ++ lb, V, ?_, ?_, ?_, ?_, fun _ => h1, ?_⟩
 ·rw [← hV, hrec]; exact run_enterLoop_outer _ _ _ _ _
 ·simp only [resolve, hg]
  simp [go_sem]
 ·intro f' hf'; simp [Target.leads] at hf'; subst hf'; exact hFg
 ·simp [invoke, go_sem, eg]
 -- what the iterator carries: the caller's invariant and the two blocks
 refine (hseq (w.heap.size + 1) (fun pre W => I pre W ∧ W.heap[w.heap.size + 1]? = some (.loop (rec .ready none)) ∧ W.heap[w.heap.size]? = some (.deferred (some [])))
  (fun pre W => ∃ c, Ix c pre W ∧ W.heap[w.heap.size + 1]? = some (.loop (rec .done (some c))) ∧ W.heap[w.heap.size]? = some (.deferred (some []))) V bV ?_ ?_ ?_ ⟨iV, rV, dV⟩).mono ?_
 ·rintro s X Y row ⟨hs, hl, hk⟩ hgr hr
  refine ⟨hI s X Y row hs hgr fun r e => ?_, (grownBy_keeps hgr (fun r e => (hr r e).2) hl rfl).trans hl, (grownBy_keeps hgr (fun r e => (hr r e).2) hk rfl).trans hk⟩
  obtain ⟨hB, o, ho, hw⟩ := hr r e
  exact ⟨by omega, o, ho, Obj.not_cells_of_walk hw⟩
 ·rintro s X Y row ⟨c, hs, hl, hk⟩ hgr hr
  refine ⟨c, hIx c s X Y row hs hgr fun r e => ?_, (grownBy_keeps hgr (fun r e => (hr r e).2) hl rfl).trans hl, (grownBy_keeps hgr (fun r e => (hr r e).2) hk rfl).trans hk⟩
  obtain ⟨hB, o, ho, hw⟩ := hr r e
  exact ⟨by omega, o, ho, Obj.not_cells_of_walk hw⟩
 ·rintro pre x W0 ⟨hi0, hl0, hk0⟩ hC0 hlen
  have hy := run_yield (P := P) (args := encs x) hl0 (by rw [hrec]; exact hps x)
  rw [hrec] at hy
  have kw := hKw x W0 (by have := (Array.getElem?_eq_some_iff.1 hl0).1; omega)
  obtain ⟨W, hWe⟩ : ∃ W, aw x W0 = W := ⟨_, rfl⟩
  have gw := haw x W0
  have hC := hCw pre x W0 hC0
  have hF := hFr x W0
  have hi := hI pre W0 _ none hi0 gw (fun r e => by cases e)
  have hl := (gw.block _ (Array.getElem?_eq_some_iff.1 hl0).1 (by simp)).trans hl0
  have hk := (gw.block _ (Array.getElem?_eq_some_iff.1 hk0).1 (by simp)).trans hk0
  rw [hWe] at kw hC hF hi hl hk
  have hlt := (Array.getElem?_eq_some_iff.1 hl).1
  refine ⟨fn, _, assign, body, hy, roundIn_of_wpIn hfn (hassign _ x W0 _ ⟨_, by rw [hWe]; exact run_beginRound hl (by rw [hrec]), ?_⟩)⟩
  obtain ⟨busy, hbusy⟩ : ∃ b : Obj, b = .loop { rec .ready none with state := .busy } := ⟨_, rfl⟩
  have l2 : (W.putObj (w.heap.size + 1) busy).heap[w.heap.size + 1]? = some busy := World.putObj_heap_same hlt
  have k2 : (W.putObj (w.heap.size + 1) busy).heap[w.heap.size]? = some (.deferred (some [])) := (World.putObj_heap_other (by omega)).trans hk
  have w2 : Kp W0 (W.putObj (w.heap.size + 1) busy) := hKt kw (hKb _ _ _ _ (by omega) hl rfl rfl)
  have sz : w.heap.size ≤ (W.putObj (w.heap.size + 1) busy).heap.size := by have := (Array.getElem?_eq_some_iff.1 k2).1; omega
  rw [← hbusy]
  refine wpIn_mono (hbody _ pre x W0 _ hi0 (hI.putObj _ hi (by omega) hl rfl) (hCb _ _ _ _ _ _ hl rfl hC) (hF _ _ _ hl rfl) sz hlen) ?_
  have fin : ∀ (jump : Option Code) (W3 : World), KeepsFrom w.heap.size (W.putObj (w.heap.size + 1) busy) W3 →
   (Instr.endRound (w.heap.size + 1) jump).run P W3 = .ok (.bool jump.isNone) (W3.putObj (w.heap.size + 1) (.loop (rec (if jump.isNone then .ready else .done) jump))) ∧
   W3.heap[w.heap.size + 1]? = some busy ∧
   (W3.putObj (w.heap.size + 1) (.loop (rec (if jump.isNone then .ready else .done) jump))).heap[w.heap.size + 1]? = some (.loop (rec (if jump.isNone then .ready else .done) jump)) ∧
   (W3.putObj (w.heap.size + 1) (.loop (rec (if jump.isNone then .ready else .done) jump))).heap[w.heap.size]? = some (.deferred (some [])) := fun jump W3 hk3 => by
   have hl3 := hk3.same _ _ (by omega) l2 (by rw [hbusy]; rfl)
   have hr := run_endRound (P := P) jump (by rw [hbusy] at hl3; exact hl3)
   rw [hrec] at hr ⊢
   exact ⟨hr, hl3, World.putObj_heap_same (Array.getElem?_eq_some_iff.1 hl3).1, (World.putObj_heap_other (by omega)).trans (hk3.same _ _ (Nat.le_refl _) k2 rfl)⟩
  rintro e a3 W3 hp
  cases e with
  | normal =>
   obtain ⟨k3, p3, i3⟩ := hp
   obtain ⟨hr, l3, l4, k4⟩ := fin none W3 k3
   exact ⟨_, _, hr, .inl ⟨rfl, ⟨hI.putObj _ i3 (by omega) l3 (by rw [hbusy]; rfl), l4, k4⟩, hKt (hKt w2 p3) (hKb _ _ _ _ (by omega) l3 (by rw [hbusy]; rfl) (by rw [hbusy]; rfl))⟩⟩
  | ret =>
   obtain ⟨k3, i3⟩ := hp
   obtain ⟨hr, l3, l4, k4⟩ := fin (some .ret) W3 k3
   exact ⟨_, _, hr, .inr ⟨rfl, .ret, (hIx _).putObj _ i3 (by omega) l3 (by rw [hbusy]; rfl), l4, k4⟩⟩
  | exit id =>
   obtain ⟨k3, i3⟩ := hp
   obtain ⟨hr, l3, l4, k4⟩ := fin (some (.exit id)) W3 k3
   exact ⟨_, _, hr, .inr ⟨rfl, .exit id, (hIx _).putObj _ i3 (by omega) l3 (by rw [hbusy]; rfl), l4, k4⟩⟩
  | goto t =>
   obtain ⟨k3, i3⟩ := hp
   obtain ⟨hr, l3, l4, k4⟩ := fin (some (.goto t)) W3 k3
   exact ⟨_, _, hr, .inr ⟨rfl, .goto t, (hIx _).putObj _ i3 (by omega) l3 (by rw [hbusy]; rfl), l4, k4⟩⟩
  | panic ch => exact hp.elim
  | outgrown => exact hp.elim
 ·rintro e W2 ⟨⟨v, rfl⟩, ⟨xs, hS, hi, hl, hk⟩ | ⟨pre, c, hi, hl, hk⟩⟩
  ·refine ⟨none, _, by have := run_endLoop (P := P) hl (by rw [hrec]; simp); rw [hrec] at this; exact this, ?_⟩
   exact hdone _ xs _ (Nat.le_refl _) (hSb _ _ _ _ _ hl rfl hS) (hI.putObj _ hi (by omega) hl rfl) ((World.putObj_heap_other (by omega)).trans hk)
  ·refine ⟨some c, _, by have := run_endLoop (P := P) hl (by rw [hrec]; simp); rw [hrec] at this; exact this, ?_⟩
   exact hstop _ c pre _ (Nat.le_refl _) ((hIx c).putObj _ hi (by omega) hl rfl) ((World.putObj_heap_other (by omega)).trans hk)
end
end Go.Proofs.YtcomeidcmcegfaaGreatDoor
