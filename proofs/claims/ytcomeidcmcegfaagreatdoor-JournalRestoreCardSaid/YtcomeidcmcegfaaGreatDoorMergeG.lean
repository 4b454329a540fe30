/-
  The walk of Merge of layer 51 of a new replica and any operations. Conditions: the operations are readable, at most a hundred million.
-/
import Derived.Test.YtcomeidcmcegfaaGreatDoorZU
import Derived.Test.YtcomeidcmcegfaaGreatDoorRepOne2
namespace Go.Proofs.YtcomeidcmcegfaaGreatDoor
open Go.RowKit Go.Shelf
set_option linter.unusedVariables false
set_option linter.unusedSimpArgs false
attribute [local go_sem] Oper.semAt_some
def RetMrg (dev : Int) (l : List OP) (w : World) (e : Ending) (w' : World) : Prop := RetRep (if mrgE dev l = 0 then dev else 0) (if mrgE dev l = 0 then seenOf (mrgL dev l) else []) (mrgL dev l) (mrgE dev l) w e w'
section
variable {W W' : World} {base base' e size n : Nat} {v : Value} {xs : List Value}
theorem row_at (h : W.ownsRow base e size v n xs) : ∀ j, v.ownBlock = some j → base ≤ j ∧ j < W.heap.size ∧ ∃ cs, W.heap[j]? = some (.cells cs e (0, 0)) := by
 intro j ej
 rcases h.2 with ⟨rfl, _⟩ | ⟨g, cap, cur, rfl, hb, hgb, _⟩
 ·simp [Value.ownBlock] at ej
 ·obtain rfl : g = j := by simpa [Value.ownBlock] using ej
  exact ⟨hb, (Array.getElem?_eq_some_iff.1 hgb).1, cur, hgb⟩
theorem row_lower (h : W.ownsRow base e size v n xs) (hb : base' ≤ base) : W.ownsRow base' e size v n xs :=
 ⟨h.1, h.2.imp id fun ⟨g, cap, cur, hv, h1, r⟩ => ⟨g, cap, cur, hv, Nat.le_trans hb h1, r⟩⟩
theorem row_move (h : W.ownsRow base e size v n xs) (hb : ∀ j, v.ownBlock = some j → W'.heap[j]? = W.heap[j]?) : W'.ownsRow base e size v n xs :=
 ⟨h.1, h.2.imp id fun ⟨g, cap, cur, hv, h1, h2, r⟩ => ⟨g, cap, cur, hv, h1, (hb g (by rw [hv]; rfl)).trans h2, r⟩⟩
theorem row_up (h : W.ownsRow base e size v n xs) (hb : Below W.heap.size W W') : W'.ownsRow base e size v n xs :=
 row_move h fun j ej => hb.block j (row_at h j ej).2.1
theorem row_ne {base2 e2 size2 n2 : Nat} {v2 : Value} {xs2 : List Value} (h : W.ownsRow base e size v n xs) (h2 : W.ownsRow base2 e2 size2 v2 n2 xs2) (he : e ≠ e2) : ∀ j, v.ownBlock = some j → v2.ownBlock ≠ some j := by
 intro j ej e'
 obtain ⟨_, _, cs, h3⟩ := row_at h j ej
 obtain ⟨_, _, cs2, h4⟩ := row_at h2 j e'
 rw [h3] at h4
 injection h4 with h4
 injection h4 with _ h4
 exact he h4
theorem row_blk {t : TypeId} {g : Nat} {cs : Array Value} (h : W.ownsRow base e size v n xs) (h2 : Blk W g t cs) (he : e ≠ t) : v.ownBlock ≠ some g := by
 intro ej
 obtain ⟨_, _, cs2, h3⟩ := row_at h g ej
 have h2 : W.heap[g]? = _ := h2
 rw [h3] at h2
 injection h2 with h2
 injection h2 with _ h2
 exact he h2
theorem row_set (h : W.ownsRow base e size v n xs) {g i : Nat} {u : Value} (hne : v.ownBlock ≠ some g) : (W.setCell ⟨g, i, none⟩ u).ownsRow base e size v n xs := h.kept (grown_set W g i u) (.inr hne)
theorem grow_rowG {row : Option Nat} {B : Nat} (h : W.ownsRow base e size v n xs) (hg : W.grownBy W' row) (hr : ∀ r, row = some r → B ≤ r ∧ ∃ o, W.heap[r]? = some o ∧ o.isCells = false) : W'.ownsRow base e size v n xs := by
 refine h.kept hg ?_
 rcases h.2 with ⟨rfl, _⟩ | ⟨g, cap, cur, rfl, _, hgb, _⟩
 ·exact .inl rfl
 ·refine .inr fun e' => ?_
  obtain ⟨_, o, ho, hc⟩ := hr g (by simpa [Value.ownBlock] using e'.symm)
  rw [hgb] at ho; cases ho; cases hc
theorem put_row {k : Nat} {o o' : Obj} (h : W.ownsRow base e size v n xs) (hk : W.heap[k]? = some o) (hc : o.isCells = false) : (W.putObj k o').ownsRow base e size v n xs :=
 OwnFrom.putObj (B := 0) (I := fun (_ : Unit) W => W.ownsRow base e size v n xs) (fun _ W W' row h hg hr => grow_rowG h hg hr) (s := ()) o' h (Nat.zero_le _) hk hc
theorem row_rd {A : Option Addr} {c m : Nat} (h : W.ownsRow base e size (.slice A m c) n xs) : Rd W A xs := by
 obtain ⟨A', c', e', -, hr⟩ := (show Own W base e size (.slice A m c) n xs from .inl h).rd
 cases e'; exact hr
theorem row_cap {A : Option Addr} {c m : Nat} (h : W.ownsRow base e size (.slice A m c) n xs) : m = n ∧ n ≤ c := by
 obtain ⟨A', c', e', hc, -⟩ := (show Own W base e size (.slice A m c) n xs from .inl h).rd
 cases e'; exact ⟨rfl, hc⟩
theorem row_from {A : Option Addr} {c m : Nat} (h : W.ownsRow base e size (.slice A m c) n xs) {l : List Value} {B : Nat} (hB : B ≤ base) : From A l B := by
 intro _ b off eA
 subst eA
 have := (row_at h b rfl).1
 omega
end
theorem row_grow2 {W W' : World} {base e size n base2 e2 size2 n2 : Nat} {v v2 : Value} {xs xs2 : List Value} (h : W.ownsRow base e size v n xs) (h2 : W.ownsRow base2 e2 size2 v2 n2 xs2) (he : e ≠ e2) (tmp : Obj) (hg : (W.alloc tmp).grownBy W' v2.ownBlock) : W'.ownsRow base e size v n xs := by
 refine (h.alloc tmp).kept hg ?_
 rcases h.2 with ⟨rfl, _⟩ | ⟨g, cap, cur, rfl, _⟩
 ·exact .inl rfl
 ·exact .inr fun e' => row_ne h h2 he g rfl e'.symm
def MrgP (w : World) (G : Nat) (dev : Int) (N0 : Nat) (acc : List OX) (A' : Option Addr) (c' : Nat) (Av : Option Addr) (cv : Nat) (W : World) : Prop :=
 Blk W G 27 #[.int .i64 dev, .slice A' 15 c', .slice Av acc.length cv] ∧ W.ownsRow (w.heap.size + 1 + 1 + 1) 3 1 (.slice A' 15 c') 15 ((seenOf (opL acc)).map I64) ∧ W.ownsRow N0 43 15 (.slice Av acc.length cv) acc.length (opsC acc)
def MrgA (w : World) (G : Nat) (dev : Int) (N0 : Nat) (ys : List OX) (pre : List OX) (W : World) : Prop :=
 (Blk W (w.heap.size + 1) 27 #[.int .i64 0, .slice none 0 0, .slice none 0 0] ∧ Blk W (w.heap.size + 1 + 1) 28 #[.int .i64 0] ∧ Below w.heap.size w W ∧ N0 ≤ W.heap.size) ∧
 ∃ (acc : List OX) (A' : Option Addr) (c' : Nat) (Av : Option Addr) (cv : Nat), MrgP w G dev N0 acc A' c' Av cv W ∧ (∀ x ∈ acc, x ∈ ys) ∧ acc.length ≤ pre.length ∧ ∀ rest, dd [] (opL pre ++ rest) = dd (opL acc) rest
def MrgX (w : World) (ys : List OX) (c : Code) (pre : List OX) (W : World) : Prop :=
 c = .ret ∧ dd [] (opL ys) = none ∧ Blk W (w.heap.size + 1) 27 #[.int .i64 0, .slice none 0 0, .slice none 0 0] ∧ Blk W (w.heap.size + 1 + 1) 28 #[.int .i64 8] ∧ Below w.heap.size w W
theorem MrgP.grow {w : World} {G : Nat} {dev : Int} {N0 : Nat} {acc : List OX} {A' : Option Addr} {c' : Nat} {Av : Option Addr} {cv : Nat} {W W' : World} {row : Option Nat} {B : Nat} (h : MrgP w G dev N0 acc A' c' Av cv W) (hg : W.grownBy W' row) (hr : ∀ r, row = some r → B ≤ r ∧ ∃ o, W.heap[r]? = some o ∧ o.isCells = false) : MrgP w G dev N0 acc A' c' Av cv W' :=
 ⟨grow_blk h.1 hg hr, grow_rowG h.2.1 hg hr, grow_rowG h.2.2 hg hr⟩
theorem MrgA.own {w : World} {G : Nat} {dev : Int} {N0 : Nat} {ys : List OX} {B : Nat} (hB : w.heap.size ≤ B) : OwnFrom B (MrgA w G dev N0 ys) := by
 rintro pre W W' row ⟨⟨h4, h5, hb, hs⟩, acc, A', c', Av, cv, h1, h8⟩ hg hr
 exact ⟨⟨grow_blk h4 hg hr, grow_blk h5 hg hr, grow_below hb hg hr hB (Nat.le_refl _), Nat.le_trans hs hg.size⟩, acc, A', c', Av, cv, h1.grow hg hr, h8⟩
theorem MrgX.own {w : World} {ys : List OX} {c : Code} {B : Nat} (hB : w.heap.size ≤ B) : OwnFrom B (MrgX w ys c) := by
 rintro pre W W' row ⟨rfl, h, h4, h5, hb⟩ hg hr
 exact ⟨rfl, h, grow_blk h4 hg hr, grow_blk h5 hg hr, grow_below hb hg hr hB (Nat.le_refl _)⟩
def FrM (y : OX) (W Y : World) : Prop := ∃ (l : Nat) (o o' : Obj), Y = (W.alloc (.cells (opC y.o y.A y.c).toArray 43)).putObj l o' ∧ (W.alloc (.cells (opC y.o y.A y.c).toArray 43)).heap[l]? = some o ∧ o.isCells = false
theorem FrM.blk {y : OX} {W Y : World} (h : FrM y W Y) : Blk Y W.heap.size 43 (opC y.o y.A y.c).toArray := by
 obtain ⟨l, o, o', rfl, h1, h2⟩ := h
 exact put_blk (Blk.new W _ _) h1 h2
theorem FrM.prt {y : OX} {W Y : World} (h : FrM y W Y) {w : World} {G : Nat} {dev : Int} {N0 : Nat} {acc : List OX} {A' : Option Addr} {c' : Nat} {Av : Option Addr} {cv : Nat} (k : MrgP w G dev N0 acc A' c' Av cv W) : MrgP w G dev N0 acc A' c' Av cv Y := by
 obtain ⟨l, o, o', rfl, h1, h2⟩ := h
 have k1 : MrgP w G dev N0 acc A' c' Av cv (W.alloc (.cells (opC y.o y.A y.c).toArray 43)) := k.grow (B := 0) (World.grownBy_alloc W _ none) (fun r e => by cases e)
 exact ⟨put_blk k1.1 h1 h2, put_row k1.2.1 h1 h2, put_row k1.2.2 h1 h2⟩
theorem last_op {acc : List OX} {n : Nat} (h : acc.length = n + 1) : (opL acc).getLast? = some (acc[n]'(by omega)).o := by
 rw [List.getLast?_eq_getElem?, opL_len, show acc.length - 1 = n by omega, List.getElem?_eq_getElem (by rw [opL_len]; omega), opL_get]
theorem dd_add {pre : List OP} {acc : List OX} {x : OX} (h : ∀ rest, dd [] (pre ++ rest) = dd (opL acc) rest) (hs : ∀ rest, dd (opL acc) (x.o :: rest) = dd (opL acc ++ [x.o]) rest) : ∀ rest, dd [] ((pre ++ [x.o]) ++ rest) = dd (opL (acc ++ [x])) rest := by
 intro rest
 rw [List.append_assoc, h, opL_app]
 exact hs rest
theorem dd_same {pre : List OP} {acc : List OX} {x : OX} (h : ∀ rest, dd [] (pre ++ rest) = dd (opL acc) rest) (hs : ∀ rest, dd (opL acc) (x.o :: rest) = dd (opL acc) rest) : ∀ rest, dd [] ((pre ++ [x.o]) ++ rest) = dd (opL acc) rest := by
 intro rest
 rw [List.append_assoc, h]
 exact hs rest
theorem dd_fail {ys pre : List OX} {x : OX} (hN : ∃ s, ys = pre ++ x :: s) {acc : List OX} (h : ∀ rest, dd [] (opL pre ++ rest) = dd (opL acc) rest) (hs : ∀ rest, dd (opL acc) (x.o :: rest) = none) : dd [] (opL ys) = none := by
 obtain ⟨s, rfl⟩ := hN
 rw [opL_app, h]
 exact hs _
theorem wrap_nat (n : Nat) (h : n < 9223372036854775808) : IntKind.i64.wrap (n : Int) = (n : Int) := IntWalk.i64_in _ (by omega)
theorem atEq_no {a b : OP} (h : (a.ac == b.ac && a.ad == b.ad) = false) : atEq a b = false := by
 rcases e : atEq a b with _ | _
 ·rfl
 ·rw [atEq_iff] at e; rw [e.1, e.2] at h; simp at h
theorem atEq_yes {a b : OP} (h : (a.ac == b.ac && a.ad == b.ad) = true) : atEq a b = true := by
 rw [Bool.and_eq_true, beq_iff_eq, beq_iff_eq] at h
 exact (atEq_iff a b).2 h
theorem retMrg_err {dev : Int} {l : List OP} {E : Int} (w : World) (h : mrgE dev l = E) (hE : E ≠ 0) : RetMrg dev l w = RetRep 0 [] [] E w := by
 unfold RetMrg mrgL
 rw [h, if_neg hE, if_neg hE, if_neg hE]
theorem retMrg_ok {dev : Int} {l D : List OP} (w : World) (h : mrgE dev l = 0) (hR : refM [] l = some D) : RetMrg dev l w = RetRep dev (seenOf D) D 0 w := by
 unfold RetMrg mrgL
 rw [h, if_pos rfl, if_pos rfl, hR]
 rfl
set_option maxRecDepth 100000 in
set_option maxHeartbeats 16000000 in
theorem merge_any (w : World) (dev : Int) (As : Option Addr) (cs : Nat) (Ao : Option Addr) (co : Nat) (Ax : Option Addr) (cx : Nat) (xs : List OX) (hx : OpsRd w Ax xs) (hxc : xs.length ≤ cx) (hxl : xs.length ≤ 100000000) (hT : Tabs w) (hF : TabR w) :
 Calls Tryz.prog 15 #[.agg #[.int .i64 dev, .slice As 15 cs, .slice Ao 0 co], .slice Ax xs.length cx] w (RetMrg dev (opL xs) w) := by
 refine (callsIn_wide (n := 6)).1 ?_
 refine callsIn_of_wp_marks Tryz.func15 rfl trivial ?_ rfl
 simp only [Tryz.ntmps15, List.size_toArray, List.length_cons, List.length_nil, Nat.reduceAdd, Nat.reduceSub, Array.replicate_succ, Array.replicate_zero, List.push_toArray, List.append_toArray, List.nil_append, List.cons_append]
 have hZ15 : joinZ.length = 15 := joinN_length _ _ _
 have HD := Lib.hid (srtF_ref xs)
 have HNs := Lib.hid (show (srtF xs.length xs).length = xs.length from srtF_len _ _)
 have HM := Lib.hid (show ∀ x ∈ srtF xs.length xs, x ∈ xs from fun x hx => mem_srtF.1 hx)
 have kSo := fun w' (h : OpsRd w' Ax xs) => sorted_any xs.length w' Ax cx xs h hxc hxl (by omega)
 unfold RetSrt at kSo
 rw [srtF_len] at kSo
 generalize srtF xs.length xs = ys at *
 have hBr : Blk (((w.alloc (.cells #[.int .i64 dev, .slice As 15 cs, .slice Ao 0 co] 27)).alloc (.cells #[.int .i64 0, .slice none 0 0, .slice none 0 0] 27)).alloc (.cells #[.int .i64 0] 28)) w.heap.size 27 #[.int .i64 dev, .slice As 15 cs, .slice Ao 0 co] := ((Blk.new w _ _).up (Up.alloc' _ _)).up (Up.alloc' _ _)
 have hB4 : Blk (((w.alloc (.cells #[.int .i64 dev, .slice As 15 cs, .slice Ao 0 co] 27)).alloc (.cells #[.int .i64 0, .slice none 0 0, .slice none 0 0] 27)).alloc (.cells #[.int .i64 0] 28)) (w.heap.size + 1) 27 #[.int .i64 0, .slice none 0 0, .slice none 0 0] := by
  have := Blk.new (w.alloc (.cells #[.int .i64 dev, .slice As 15 cs, .slice Ao 0 co] 27)) 27 #[.int .i64 0, .slice none 0 0, .slice none 0 0]
  rw [World.size_alloc] at this
  exact this.up (Up.alloc' _ _)
 have hB5 : Blk (((w.alloc (.cells #[.int .i64 dev, .slice As 15 cs, .slice Ao 0 co] 27)).alloc (.cells #[.int .i64 0, .slice none 0 0, .slice none 0 0] 27)).alloc (.cells #[.int .i64 0] 28)) (w.heap.size + 1 + 1) 28 #[.int .i64 0] := by
  have := Blk.new ((w.alloc (.cells #[.int .i64 dev, .slice As 15 cs, .slice Ao 0 co] 27)).alloc (.cells #[.int .i64 0, .slice none 0 0, .slice none 0 0] 27)) 28 #[.int .i64 0]
  rw [World.size_alloc, World.size_alloc] at this
  exact this
 have hbq : Below w.heap.size w (((w.alloc (.cells #[.int .i64 dev, .slice As 15 cs, .slice Ao 0 co] 27)).alloc (.cells #[.int .i64 0, .slice none 0 0, .slice none 0 0] 27)).alloc (.cells #[.int .i64 0] 28)) := (((Below.refl w.heap.size w).alloc (Nat.le_refl _) _).alloc (by simp) _).alloc (by simp; omega) _
 have hsq : (((w.alloc (.cells #[.int .i64 dev, .slice As 15 cs, .slice Ao 0 co] 27)).alloc (.cells #[.int .i64 0, .slice none 0 0, .slice none 0 0] 27)).alloc (.cells #[.int .i64 0] 28)).heap.size = w.heap.size + 1 + 1 + 1 := by simp
 have HB4 := Lib.hid hB4
 have HB5 := Lib.hid hB5
 have HBR := Lib.hid hBr
 have HBQ := Lib.hid hbq
 have HSQ := Lib.hid hsq
 clear hB4 hB5 hBr hbq hsq
 have kJ : ∀ w', Calls Tryz.prog 23 #[.slice none 0 0, .slice none 0 0] w' (RetInts joinZ w') := fun w' => join_any w' none 0 [] (Rd.nil _ _) (by decide) none 0 [] (Rd.nil _ _) (by decide)
 have HZ : Hid (joinZ = seenOf []) := rfl
 generalize joinZ = Z at *
 gi_wp2
 generalize hwq : ((w.alloc (.cells #[.int .i64 dev, .slice As 15 cs, .slice Ao 0 co] 27)).alloc (.cells #[.int .i64 0, .slice none 0 0, .slice none 0 0] 27)).alloc (.cells #[.int .i64 0] 28) = wq at *
 clear hwq
 have r0 : ∀ w', Up wq w' → w'.cell? ⟨w.heap.size, 0, none⟩ = some (.int .i64 dev) := fun w' u => by rw [(HBR.out.up u).cell]; rfl
 refine wpIn_wide.2 ?_
 refine Code.wp_mono (Q := fun e a' w' => e = .normal ∧ ∃ (G : Nat) (A : Option Addr) (c : Nat), a' = { tmps := #[.agg #[.int .i64 dev, .slice As 15 cs, .slice Ao 0 co], .slice Ax xs.length cx, .pointer (some ⟨w.heap.size, 0, none⟩), undef, .pointer (some ⟨w.heap.size + 1, 0, none⟩), .pointer (some ⟨w.heap.size + 1 + 1, 0, none⟩), .pointer (some ⟨G, 0, none⟩), undef, undef, undef, .pointer (some ⟨w.heap.size, 0, none⟩), .int .i64 dev, .slice A 15 c, .agg #[.int .i64 dev, .slice A 15 c, .slice none 0 0], undef, undef, undef, undef, undef, undef, undef, undef, undef, undef, undef, undef, undef, undef, undef, undef, undef, undef, undef, undef, undef, undef, undef, undef, undef, undef, undef, undef, undef, undef, undef, undef, undef, undef, undef, undef, undef, undef, undef, undef, undef, undef, undef, undef, undef, undef, undef, undef, undef, undef, undef, undef], defers := [] } ∧
  Blk w' G 27 #[.int .i64 dev, .slice A 15 c, .slice none 0 0] ∧ w'.ownsRow wq.heap.size 3 1 (.slice A 15 c) 15 (Z.map I64) ∧ wq.heap.size ≤ G ∧ Up wq w') ?_ ?_
 rotate_left
 refine wp_region_noPanic ?_
 refine wp_region_held_drew (S := fun w' => Up wq w') (by kernel_rfl) (Up.drew wq) (fun hHeld => ?_)
 refine tk 0 10 (v := ?_) ?_ ?_
 rotate_left
 ·intro w' hSw; clear hSw; go_simp; try (with_reducible rfl)
 try simp only [tkA, tkB, tkC]
 refine tk 1 11 (v := ?_) ?_ ?_
 rotate_left
 ·intro w' hS0; go_simp; try (with_reducible rfl)
 try simp only [tkA, tkB, tkC]
 refine wpAnyH_ready (rs := [2, 4]) (by kernel_rfl) (by simp) ?_
 refine AllReadyH.cons rfl (fun K hK => ?_) (AllReadyH.cons rfl (fun K hK => ?_) AllReadyH.nil)
 ·go_simp
  go_at_call 23
  refine (kJ _).mono ?_
  rintro e w2 ⟨A2, c2, rfl, hown2, hb2⟩
  have hu2 : Up wq w2 := (Up.drew _).trans (Up.of hb2)
  refine hK.out _ _ hu2 (fun hHeld => ?_)
  clear hK K
  refine tk 3 13 (v := ?_) ?_ ?_
  rotate_left
  ·intro w' hSw; clear hSw; go_simp; try (with_reducible rfl)
  try simp only [tkA, tkB, tkC]
  refine wpAnyH_ready (rs := [4]) (by kernel_rfl) (by simp) ?_
  refine AllReadyH.cons rfl (fun K hK => ?_) AllReadyH.nil
  go_simp
  refine hK.out _ _ (hu2.trans (Up.alloc' _ _)) (fun hHeld => ?_)
  clear hK K
  refine wpAnyH_ready (rs := [5]) (by kernel_rfl) (by simp) ?_
  refine AllReadyH.cons rfl (fun K hK => ?_) AllReadyH.nil
  go_simp
  refine hK.out _ _ (hu2.trans (Up.alloc' _ _)) (fun hHeld => ?_)
  clear hK K
  refine wpAnyH_done (by kernel_rfl) ?_ _
  refine NoPanic.normal ?_
  clear hHeld
  rw [hZ15] at hown2
  rcases hown2 with hrw | ⟨h0, _⟩
  ·exact ⟨rfl, _, A2, c2, rfl, Blk.new _ _ _, hrw.alloc _, hu2.b.size, hu2.trans (Up.alloc' _ _)⟩
  ·cases h0
 ·go_simp
  refine hK.out _ _ ((Up.drew _).trans (Up.alloc' _ _)) (fun hHeld => ?_)
  clear hK K
  refine wpAnyH_ready (rs := [2]) (by kernel_rfl) (by simp) ?_
  refine AllReadyH.cons rfl (fun K hK => ?_) AllReadyH.nil
  go_simp
  go_at_call 23
  refine (kJ _).mono ?_
  rintro e w2 ⟨A2, c2, rfl, hown2, hb2⟩
  have hu1 : Up ((wq.drew).alloc (.cells #[.int .i64 0, .slice none 0 0, .slice none 0 0] 27)) w2 := Up.of hb2
  have hu2 : Up wq w2 := ((Up.drew _).trans (Up.alloc' _ _)).trans hu1
  have hG := (Blk.new wq.drew 27 #[.int .i64 0, .slice none 0 0, .slice none 0 0]).up hu1
  have g0 : w2.cell? ⟨wq.heap.size, 0, none⟩ = some (.int .i64 0) := by have := hG.cell 0; exact this
  have g1 : w2.cell? ⟨wq.heap.size, 1, none⟩ = some (.slice none 0 0) := by have := hG.cell 1; exact this
  have g2 : w2.cell? ⟨wq.heap.size, 2, none⟩ = some (.slice none 0 0) := by have := hG.cell 2; exact this
  have e0 : w2.frozen? ⟨wq.heap.size, 0, none⟩ = false := hG.free 0
  have e1 : w2.frozen? ⟨wq.heap.size, 1, none⟩ = false := hG.free 1
  have e2 : w2.frozen? ⟨wq.heap.size, 2, none⟩ = false := hG.free 2
  refine hK.out _ _ hu2 (fun hHeld => ?_)
  clear hK K
  refine tk 3 13 (v := ?_) ?_ ?_
  rotate_left
  ·intro w' hSw; clear hSw; go_simp; try (with_reducible rfl)
  try simp only [tkA, tkB, tkC]
  refine wpAnyH_ready (rs := [5]) (by kernel_rfl) (by simp) ?_
  refine AllReadyH.cons rfl (fun K hK => ?_) AllReadyH.nil
  go_simp
  have hu5 : Up wq (((w2.setCell ⟨wq.heap.size, 0, none⟩ (.int .i64 dev)).setCell ⟨wq.heap.size, 1, none⟩ (.slice A2 15 c2)).setCell ⟨wq.heap.size, 2, none⟩ (.slice none 0 0)) := Up.of (((hu2.b.setCell (p := ⟨wq.heap.size, 0, none⟩) (Nat.le_refl _) _).setCell (p := ⟨wq.heap.size, 1, none⟩) (Nat.le_refl _) _).setCell (p := ⟨wq.heap.size, 2, none⟩) (Nat.le_refl _) _)
  refine hK.out _ _ hu5 (fun hHeld => ?_)
  clear hK K
  refine wpAnyH_done (by kernel_rfl) ?_ _
  refine NoPanic.normal ?_
  clear hHeld
  rw [hZ15] at hown2
  rcases hown2 with hrw | ⟨h0, _⟩
  ·have hne : (Value.slice A2 15 c2).ownBlock ≠ some wq.heap.size := by
    intro e
    have : (wq.alloc (.cells #[.int .i64 0, .slice none 0 0, .slice none 0 0] 27)).heap.size ≤ wq.heap.size := (row_at hrw _ e).1
    rw [World.size_alloc] at this
    exact Nat.lt_irrefl _ this
   exact ⟨rfl, _, A2, c2, rfl, ((hG.set 0 _).set 1 _).set 2 _, row_lower (row_set (row_set (row_set hrw hne) hne) hne) (by show wq.heap.size ≤ (wq.alloc (.cells #[.int .i64 0, .slice none 0 0, .slice none 0 0] 27)).heap.size; rw [World.size_alloc]; exact Nat.le_succ _), Nat.le_refl _, hu5⟩
  ·cases h0
 rintro e a' w1 ⟨rfl, G, A, c, rfl, hG, hR, hsG, hu⟩
 have r2 : ∀ w', Up w1 w' → w'.cell? ⟨w.heap.size, 2, none⟩ = some (.slice Ao 0 co) := fun w' u => by rw [(HBR.out.up (hu.trans u)).cell]; rfl
 have hu' := Lib.hid hu
 have hG' := Lib.hid hG
 have hR' := Lib.hid hR
 clear r0 kJ hu hG hR
 gi_wp2
 refine wpIn_wide.2 ?_
 refine wp_region_noPanic ?_
 refine wp_region_held_drew (S := fun w' => Up w1 w') (by kernel_rfl) (Up.drew w1) (fun hHeld => ?_)
 refine tk 0 14 (v := ?_) ?_ ?_
 rotate_left
 ·intro w' hSw; clear hSw; go_simp; try (with_reducible rfl)
 try simp only [tkA, tkB, tkC]
 refine tk 1 15 (v := ?_) ?_ ?_
 rotate_left
 ·intro w' hS0; go_simp; try (with_reducible rfl)
 try simp only [tkA, tkB, tkC]
 refine tk 2 16 (v := ?_) ?_ ?_
 rotate_left
 ·intro w' hSw; clear hSw; go_simp; try (with_reducible rfl)
 try simp only [tkA, tkB, tkC]
 refine wpAnyH_ready (rs := [3]) (by kernel_rfl) (by simp) ?_
 refine AllReadyH.cons rfl (fun K hK => ?_) AllReadyH.nil
 go_simp
 go_at_call 25
 refine (kSo _ (hx.below (stepB (stepB HBQ.out hu'.out.b) hHeld.b))).mono ?_
 rintro e w2 ⟨A2, c2, rfl, hO2, hc2, hb2, hN2⟩
 have hu2 : Up w1 w2 := hHeld.trans (Up.of hb2)
 refine hK.out _ _ hu2 (fun hHeld => ?_)
 clear hK K
 have hN2 : Near Ax A2 w1.heap.size := hN2
 clear hHeld
 refine wpAnyH_more (S' := fun w' => Up w2 w') (fun w' h => Up.trans hu2 h) _ _ _ _ ?_
 have hHeld := Up.refl w2
 refine wpAnyH_ready (rs := [4]) (by kernel_rfl) (by simp) ?_
 refine AllReadyH.cons rfl (fun K hK => ?_) AllReadyH.nil
 go_simp
 go_at_call 24
 refine (both_any _ _ _ _ _ _ _).mono ?_
 rintro e w4 ⟨rfl, rfl⟩
 have hu4 := (hHeld.trans (Up.alloc' _ (.cells #[.slice Ao 0 co] 25))).trans (Up.alloc' _ (.cells #[.slice A2 xs.length c2] 25))
 refine hK.out _ _ hu4 (fun hHeld => ?_)
 clear hK K
 refine wpAnyH_done (by kernel_rfl) ?_ _
 refine NoPanic.normal ?_
 clear hHeld
 have uL := hu2.trans hu4
 have hBa : Blk ((w2.alloc (.cells #[.slice Ao 0 co] 25)).alloc (.cells #[.slice A2 xs.length c2] 25)) w2.heap.size 25 #[.slice Ao 0 co] := (Blk.new w2 _ _).up (Up.alloc' _ _)
 have hBb : Blk ((w2.alloc (.cells #[.slice Ao 0 co] 25)).alloc (.cells #[.slice A2 xs.length c2] 25)) (w2.heap.size + 1) 25 #[.slice A2 xs.length c2] := by
  have := Blk.new (w2.alloc (.cells #[.slice Ao 0 co] 25)) 25 #[.slice A2 xs.length c2]
  rw [World.size_alloc] at this
  exact this
 have hGL := hG'.out.up uL
 have hRL := row_up hR'.out uL.b
 have h4L := (HB4.out.up hu'.out).up uL
 have h5L := (HB5.out.up hu'.out).up uL
 have hbL := stepB (stepB HBQ.out hu'.out.b) uL.b
 have hGlt := hG'.out.lt
 have hsG' : w.heap.size + 1 + 1 + 1 ≤ G := by rw [← HSQ.out]; exact hsG
 have hNL : ((w2.alloc (.cells #[.slice Ao 0 co] 25)).alloc (.cells #[.slice A2 xs.length c2] 25)).heap.size = w2.heap.size + 1 + 1 := by rw [World.size_alloc, World.size_alloc]
 have hw12 : w1.heap.size ≤ w2.heap.size := hu2.b.size
 have hO2L := Lib.hid (hO2.rd.below hu4.b)
 have fO2 : Hid (Far A2 (opsC ys) G) := by
  intro hne
  have hxne : opsC xs ≠ [] := by
   intro e
   have h1 := opsC_size xs
   have h2 := opsC_size ys
   have h3 := HNs.out
   rw [e] at h1
   simp at h1
   have : opsC ys = [] := List.eq_nil_of_length_eq_zero (by omega)
   exact hne this
  exact hN2.far (m := opsC ys) hx.rd hxne (by omega) hGlt hne
 have hBa' := Lib.hid hBa
 have hBb' := Lib.hid hBb
 have hGL' := Lib.hid hGL
 have hRL' := Lib.hid hRL
 have h4L' := Lib.hid h4L
 have h5L' := Lib.hid h5L
 have hbL' := Lib.hid hbL
 have hNL' := Lib.hid hNL
 clear uL hBa hBb hGL hRL h4L h5L hbL hNL r2 hu2 hu4 hO2 hN2 hb2 kSo
 generalize ((w2.alloc (.cells #[.slice Ao 0 co] 25)).alloc (.cells #[.slice A2 xs.length c2] 25)) = wl at *
 have hwl : w.heap.size ≤ wl.heap.size := hbL'.out.size
 have hGwl : G < wl.heap.size := by rw [hNL'.out]; omega
 have eN := HNs.out
 rw [← eN] at hBb'
 gi_wp2
 refine wpIn_rangeFunc_E rfl (by omega) (gf := 45) (lb := #[.pointer (some ⟨w2.heap.size, 0, none⟩), .pointer (some ⟨w2.heap.size + 1, 0, none⟩)]) rfl trivial (enters_of Tryz.func45 (by kernel_rfl) rfl)
  (encs := opEnc) (Kp := KpX wl.heap.size G) (C := NextIn ys) (S := fun zs _ => zs = ys) (N := ys.length) (w0 := wl)
  (fun l J Jx W hW hJ hJx hY h0 => bothR_in _ (by omega) l w2.heap.size (w2.heap.size + 1) Ao A2 co c2 ys (by unfold maxLen; omega) (KpX wl.heap.size G) wl KpX.trans (fun h hb => KpX.of hb h.size)
   (fun W' h => ⟨h.blk hBa'.out (by rw [hNL'.out]; omega) (by omega), h.blk hBb'.out (by rw [hNL'.out]; omega) (by omega),
    ⟨hO2L.out.kpx h fO2.out (Nat.le_refl _), fun x hx' => (hx.ok x (HM.out x hx')).below (hbL'.out.trans (h.below hwl (by omega)))⟩⟩) J Jx hY W (KpX.of hW (Nat.le_refl _)) hJ hJx h0)
  KpX.trans (fun W l o o' hl' h hc hw => KpX.put W l o o' hl' h hc hw) (fun _ _ _ _ _ _ _ _ h => h) (fun _ _ _ _ _ _ _ h => h) (Below.refl _ _) (fun _ => rfl)
  (MrgA w G dev wl.heap.size ys) (MrgX w ys) (MrgA.own hwl) (fun _ => MrgX.own hwl)
  ⟨⟨h4L'.out, h5L'.out, hbL'.out, Nat.le_refl _⟩, [], A, c, none, 0, ⟨hGL'.out, by rw [show seenOf (opL []) = Z from HZ.out.symm, ← HSQ.out]; exact hRL'.out, World.ownsRow_nil _ _ _ _⟩, by simp, Nat.le_refl _, fun rest => rfl⟩
  (fun y W => { tmps := #[.agg #[.int .i64 dev, .slice As 15 cs, .slice Ao 0 co], .slice Ax xs.length cx, .pointer (some ⟨w.heap.size, 0, none⟩), undef, .pointer (some ⟨w.heap.size + 1, 0, none⟩), .pointer (some ⟨w.heap.size + 1 + 1, 0, none⟩), .pointer (some ⟨G, 0, none⟩), .pointer (some ⟨W.heap.size, 0, none⟩), undef, undef, .pointer (some ⟨w.heap.size, 0, none⟩), .int .i64 dev, .slice A 15 c, .agg #[.int .i64 dev, .slice A 15 c, .slice none 0 0], .pointer (some ⟨w.heap.size, 2, none⟩), .slice Ao 0 co, .slice Ax xs.length cx, .slice A2 xs.length c2, .func (.func 45) #[] #[.pointer (some ⟨w2.heap.size, 0, none⟩), .pointer (some ⟨w2.heap.size + 1, 0, none⟩)], .agg (opC y.o y.A y.c).toArray, undef, undef, undef, undef, undef, undef, undef, undef, undef, undef, undef, undef, undef, undef, undef, undef, undef, undef, undef, undef, undef, undef, undef, undef, undef, undef, undef, undef, undef, undef, undef, undef, undef, undef, undef, undef, undef, undef, undef, undef, undef, undef, undef, undef, undef, undef], defers := [] })
  (fun y W => W.alloc (.cells (opC y.o y.A y.c).toArray 43)) FrM
  (fun y W => World.grownBy_alloc W _ none) (fun y W hs => KpX.of ((Below.refl _ _).alloc (Nat.le_refl _) _) hs) (fun _ _ _ h => h)
  (fun y W l o o' h hc => ⟨l, o, o', rfl, h, hc⟩) ?assign ?body ?done ?stop
 case assign =>
  intro l y W K hK
  obtain ⟨o, A1, c1⟩ := y
  dsimp only [opC] at hK
  dsimp only [opEnc, opC]
  gi_wp2
  exact hK
 case body =>
  rintro l pre y W Y ⟨-, acc, A', c', Av, cv, hP, hM, hL, hDD⟩ ⟨⟨h4, h5, hB, hsY⟩, -⟩ hC hF hsz hlen
  obtain ⟨hGb, hSr, hOr⟩ := hF.prt hP
  have hyb := hF.blk
  have hvW : Hid (∀ j, (Value.slice Av acc.length cv).ownBlock = some j → j < W.heap.size) := fun j e => (row_at hP.2.2 j e).2.1
  have hyx : y ∈ ys := by obtain ⟨s, hs⟩ := hC; rw [hs]; simp
  obtain ⟨bd, ro, qo⟩ := hx.ok y (HM.out y hyx)
  have ro := ro.below hB
  have hC' : Hid (∃ s, ys = pre ++ y :: s) := hC
  have hne : some W.heap.size ≠ some G := by
   intro e
   have e := Option.some.inj e
   have h1 := hyb
   rw [e] at h1
   have := h1.symm.trans hGb
   simp at this
  have hal : acc.length < 100000000 := by omega
  obtain ⟨i0, hi, hz0, hz1, hz2⟩ := info_parts info_op
  obtain ⟨o, Ay, cy⟩ := y
  dsimp only at bd ro qo
  have cG2 : Y.cell? ⟨G, 2, none⟩ = some (.slice Av acc.length cv) := by rw [hGb.cell]; rfl
  have hB' := Lib.hid hB
  have h4' := Lib.hid h4
  have h5' := Lib.hid h5
  have hM' := Lib.hid hM
  have hL' := Lib.hid hL
  have hDD' := Lib.hid hDD
  have hNe := Lib.hid hne
  have hYm := Lib.hid hyx
  clear hB h4 h5 hC hM hL hDD hne hP hF hyx
  by_cases hn : acc.length = 0
  ·obtain rfl : acc = [] := List.eq_nil_of_length_eq_zero hn
   have HDX := Lib.hid (dd_add (x := ⟨o, Ay, cy⟩) hDD'.out (fun rest => dd_first o rest))
   clear hn
   simp only [List.length_nil] at hOr cG2 hGb hvW
   gi_wp2
   refine wpIn_round_held (S := fun w' => Up Y w') (fun _ _ h => h) (by kernel_rfl) (by kernel_rfl) (Up.drew Y) (fun hHeld => ?_)
   refine tk 0 23 (v := ?_) ?_ ?_
   rotate_left
   ·intro w' hSw; clear hSw; go_simp; try (with_reducible rfl)
   try simp only [tkA, tkB, tkC]
   refine tk 1 24 (v := ?_) ?_ ?_
   rotate_left
   ·intro w' hSw; clear hSw; go_simp; try (with_reducible rfl)
   try simp only [tkA, tkB, tkC]
   refine tk 2 25 (v := ?_) ?_ ?_
   rotate_left
   ·intro w' hSw; clear hSw; go_simp; try (with_reducible rfl)
   try simp only [tkA, tkB, tkC]
   refine held_skip 3 rfl (by kernel_rfl) (by kernel_rfl) (by kernel_rfl) (fun _ _ _ h => h) (by rfl) (by assumption) ?_
   change wpAnyH _ _ _ _ _ _ _ (Act.put _ (some 26) _) _
   try simp only [Act.put, tkA, tkB, tkC]
   refine held_skip 4 rfl (by kernel_rfl) (by kernel_rfl) (by kernel_rfl) (fun _ _ _ h => h) (by rfl) (by assumption) ?_
   change wpAnyH _ _ _ _ _ _ _ (Act.put _ (some 27) _) _
   try simp only [Act.put, tkA, tkB, tkC]
   refine held_skip 5 rfl (by kernel_rfl) (by kernel_rfl) (by kernel_rfl) (fun _ _ _ h => h) (by rfl) (by assumption) ?_
   change wpAnyH _ _ _ _ _ _ _ (Act.put _ (some 28) _) _
   try simp only [Act.put, tkA, tkB, tkC]
   refine held_skip 6 rfl (by kernel_rfl) (by kernel_rfl) (by kernel_rfl) (fun _ _ _ h => h) (by rfl) (by assumption) ?_
   change wpAnyH _ _ _ _ _ _ _ (Act.put _ (some 29) _) _
   try simp only [Act.put, tkA, tkB, tkC]
   refine held_skip 7 rfl (by kernel_rfl) (by kernel_rfl) (by kernel_rfl) (fun _ _ _ h => h) (by rfl) (by assumption) ?_
   change wpAnyH _ _ _ _ _ _ _ (Act.put _ (some 30) _) _
   try simp only [Act.put, tkA, tkB, tkC]
   refine held_skip 8 rfl (by kernel_rfl) (by kernel_rfl) (by kernel_rfl) (fun _ _ _ h => h) (by rfl) (by assumption) ?_
   change wpAnyH _ _ _ _ _ _ _ (Act.put _ (some 31) _) _
   try simp only [Act.put, tkA, tkB, tkC]
   refine held_skip 9 rfl (by kernel_rfl) (by kernel_rfl) (by kernel_rfl) (fun _ _ _ h => h) (by rfl) (by assumption) ?_
   change wpAnyH _ _ _ _ _ _ _ (Act.put _ (some 32) _) _
   try simp only [Act.put, tkA, tkB, tkC]
   refine held_skip 10 rfl (by kernel_rfl) (by kernel_rfl) (by kernel_rfl) (fun _ _ _ h => h) (by rfl) (by assumption) ?_
   change wpAnyH _ _ _ _ _ _ _ (Act.put _ (some 33) _) _
   try simp only [Act.put, tkA, tkB, tkC]
   refine held_skip 11 rfl (by kernel_rfl) (by kernel_rfl) (by kernel_rfl) (fun _ _ _ h => h) (by rfl) (by assumption) ?_
   change wpAnyH _ _ _ _ _ _ _ (Act.put _ (some 34) _) _
   try simp only [Act.put, tkA, tkB, tkC]
   refine held_skip 12 rfl (by kernel_rfl) (by kernel_rfl) (by kernel_rfl) (fun _ _ _ h => h) (by rfl) (by assumption) ?_
   change wpAnyH _ _ _ _ _ _ _ (Act.put _ (some 35) _) _
   try simp only [Act.put, tkA, tkB, tkC]
   refine tk 13 36 (v := ?_) ?_ ?_
   rotate_left
   ·intro w' hSw; clear hSw; go_simp; try (with_reducible rfl)
   try simp only [tkA, tkB, tkC]
   refine wpAnyH_done (by kernel_rfl) ?_ _
   refine NoPanic.normal ?_
   clear hHeld
   have hSn : Hid (seenOf (opL (([] : List OX) ++ [⟨o, Ay, cy⟩])) = seeL (seenOf (opL ([] : List OX))) o.ac o.ad) := by rw [Hid, opL_app]; exact seenOf_snoc _ _
   have hZl := seenOf_len (opL ([] : List OX))
   generalize seenOf (opL ([] : List OX)) = Zc at *
   have ud := Up.drew Y
   have hGd := hGb.up ud
   have hSd := row_up hSr ud.b
   have hOd := row_up hOr ud.b
   have hYd := hyb.up ud
   have h4d := Lib.hid (h4'.out.up ud)
   have h5d := Lib.hid (h5'.out.up ud)
   have hBd := Lib.hid (stepB hB'.out ud.b)
   have kd := Lib.hid (koBelow ud.b)
   have xd : Hid (KpX wl.heap.size G Y Y.drew) := KpX.of ud.b hsz
   have sd : wl.heap.size ≤ Y.drew.heap.size := hsz
   clear ud hGb hSr hOr hyb h4' h5' hB' cG2
   generalize Y.drew = Yd at *
   have cGd : Yd.cell? ⟨G, 2, none⟩ = some (.slice Av 0 cv) := by rw [hGd.cell]; rfl
   obtain ⟨⟨m0, m1, m2, m3⟩, ⟨m4, m5, m6, m7, m8, m9, m10⟩, ⟨m11, m12, m13, m14⟩⟩ := blk_opAtJ hYd
   have hoG := row_blk hOd hGd (by decide)
   have hGd' := Lib.hid hGd
   have hSd' := Lib.hid hSd
   have hYd' := Lib.hid hYd
   clear hGd hSd hYd
   gi_wp2_with (gi_at_builtin; refine wpListIn_hold ?_)
   unfold Hold
   refine wpListIn_append_own _ rfl _ _ 25 rfl wl.heap.size 43 i0 _ 15 152 Tryz.underlying25 hi hz0 hz1 hz2 rfl (by decide) _ _ _ rfl (hOd.alloc _) ⟨Yd.heap.size, 0, none⟩ 1 1 (opC o Ay cy) rfl rfl (fun j u hu => by rw [add_plain, Nat.zero_add]; show (Yd.alloc (.cells (opC o Ay cy).toArray 43)).cell? _ = _; rw [cell_of_row _ _ _ _ _ _ (heap_alloc_new Yd _)]; simpa [opC] using hu) (fun u hu => by have := List.all_eq_true.1 (show (opC o Ay cy).all (·.oneCell') = true by simp [opC, Value.oneCell']) u hu; exact this) (by unfold maxLen; omega) (by omega) (by simp; omega) ?_
   intro v' w2 hown' hgrow _
   obtain ⟨g', cap', rfl⟩ := ownsRow_succ hown'
   have Hk := Lib.hid (row_grown (n := w.heap.size) hOd hgrow sd hwl)
   have hG2 := (hGd'.out.up (Up.alloc' Yd (.cells (opC o Ay cy).toArray 43))).kept hgrow (fun e => hoG e.symm)
   have hF2 := (hYd'.out.up (Up.alloc' Yd (.cells (opC o Ay cy).toArray 43))).kept hgrow (fun e => Nat.lt_irrefl _ (hvW.out _ e.symm))
   have h42 := Lib.hid ((h4d.out.up (Up.alloc' Yd (.cells (opC o Ay cy).toArray 43))).kept hgrow (fun e => row_blk hOd h4d.out (by decide) e.symm))
   have h52 := Lib.hid ((h5d.out.up (Up.alloc' Yd (.cells (opC o Ay cy).toArray 43))).kept hgrow (fun e => row_blk hOd h5d.out (by decide) e.symm))
   have hS2 := row_grow2 hSd'.out hOd (by decide) _ hgrow
   have k2 : w2.cell? ⟨G, 2, none⟩ = some (.slice Av 0 cv) := by rw [hG2.cell]; rfl
   have f2 := hG2.free 2
   obtain ⟨vn, hvn⟩ : ∃ v, v = Value.slice (some ⟨g', 0, none⟩) (0 + 1) cap' := ⟨_, rfl⟩
   have hG5 := hG2.set 2 vn
   have hF5 := hF2.kept (grown_set w2 G 2 vn) hNe.out
   have hS5 := row_set (g := G) (i := 2) (u := vn) hS2 (row_blk hS2 hG2 (by decide))
   have hO5 := Lib.hid (row_set (g := G) (i := 2) (u := vn) hown' (row_blk hown' hG2 (by decide)))
   rw [hvn] at hG5 hF5 hS5 hO5
   have k1 : (w2.setCell ⟨G, 2, none⟩ (.slice (some ⟨g', 0, none⟩) (0 + 1) cap')).cell? ⟨G, 1, none⟩ = some (.slice A' 15 c') := by rw [hG5.cell]; rfl
   have n0 : (w2.setCell ⟨G, 2, none⟩ (.slice (some ⟨g', 0, none⟩) (0 + 1) cap')).cell? ⟨W.heap.size, 0, none⟩ = some (.int .i64 o.ac) := by rw [hF5.cell]; rfl
   have n1 : (w2.setCell ⟨G, 2, none⟩ (.slice (some ⟨g', 0, none⟩) (0 + 1) cap')).cell? ⟨W.heap.size, 1, none⟩ = some (.int .i64 o.ad) := by rw [hF5.cell]; rfl
   have hRd5 := row_rd hS5
   have hG5 := Lib.hid hG5
   clear hvn vn hG2 hF2 hS2 hF5 hgrow hown' hOd hYd' hGd' hSd' m0 m1 m2 m3 m4 m5 m6 m7 m8 m9 m10 m11 m12 m13 m14 cGd hoG h4d h5d
   have kS := see_any _ A' c' Zc hRd5 (by omega) o.ac o.ad
   unfold RetInts at kS
   simp only [seeL_length, hZl] at kS
   gi_wp2_with (refine ⟨trivial, ?_⟩; gi_at_call 27; refine (CallsIn.inRound l (callsIn_wide.2 kS)).mono ?_; rintro e w6 ⟨A6, c6, rfl, hown6, hb6⟩; have hG6 := hG5.out.up (Up.of hb6); have q1 : w6.cell? ⟨G, 1, none⟩ = some (.slice A' 15 c') := by { rw [hG6.cell]; rfl }; have f6 := hG6.free 1; have HB6 := Lib.hid hb6; have OW6 := Lib.hid hown6; have HG6 := Lib.hid hG6; clear hb6 hown6 hG6 hG5 hRd5 hS5 kS k1 n0 n1 k2 f2)
   have e5 : (w2.setCell ⟨G, 2, none⟩ (.slice (some ⟨g', 0, none⟩) (0 + 1) cap')).heap.size = w2.heap.size := grown_set_size w2 G 2 _
   have hn4 : some (w.heap.size + 1) ≠ some G := by simp; omega
   have hn5 : some (w.heap.size + 1 + 1) ≠ some G := by simp; omega
   have hs2 : wl.heap.size ≤ w2.heap.size := Nat.le_trans sd (Hk.out.2.1 0).size
   have hwG : w.heap.size ≤ G := by omega
   rcases OW6.out with hr6 | ⟨h0, _⟩
   rotate_left
   ·cases h0
   have hb6' := HB6.out
   rw [e5] at hr6 hb6'
   have O6 := row_set (g := G) (i := 1) (u := .slice A6 15 c6) (row_up hO5.out HB6.out) (row_blk (row_up hO5.out HB6.out) HG6.out (by decide))
   refine ⟨((((kd.out.trans Hk.out.1).trans (KeepsOthers.setCell w2 _ _)).trans (koBelow HB6.out)).trans (KeepsOthers.setCell w6 _ _)).from _,
    (((xd.out.trans (Hk.out.2.1 G)).trans (KpX.setG w2 2 _)).trans (KpX.of HB6.out (by rw [e5]; exact hs2))).trans (KpX.setG w6 1 _),
    ⟨((h42.out.kept (grown_set w2 G 2 _) hn4).up (Up.of HB6.out)).kept (grown_set w6 G 1 _) hn4, ((h52.out.kept (grown_set w2 G 2 _) hn5).up (Up.of HB6.out)).kept (grown_set w6 G 1 _) hn5,
     (stepB ((hBd.out.trans Hk.out.2.2).setCell (p := ⟨G, 2, none⟩) hwG _) HB6.out).setCell (p := ⟨G, 1, none⟩) hwG _, by rw [grown_set_size]; have := hb6'.size; omega⟩,
    ([] : List OX) ++ [⟨o, Ay, cy⟩], A6, c6, some ⟨g', 0, none⟩, cap', ⟨?_, ?_, ?_⟩, ?_, ?_, by rw [opL_app]; exact HDX.out⟩
   ·rw [List.length_append]; exact HG6.out.set 1 _
   ·rw [hSn.out]; exact row_lower (row_set hr6 (row_blk hr6 HG6.out (by decide))) (by omega)
   ·rw [List.length_append, opsC_app]; exact O6
   ·intro x hx'
    rcases List.mem_append.1 hx' with h | h
    ·exact hM'.out x h
    ·rw [List.mem_singleton.1 h]; exact hYm.out
   ·rw [List.length_append, List.length_append]; exact Nat.add_le_add_right hL'.out 1
  ·obtain ⟨n, hn⟩ : ∃ n, acc.length = n + 1 := ⟨acc.length - 1, by omega⟩
   have hnl : n < acc.length := by omega
   have hlst := Lib.hid (last_op hn)
   have hOs : OpsRd Y Av acc := ⟨row_rd hOr, fun x hx' => (hx.ok x (HM.out x (hM'.out x hx'))).below hB'.out⟩
   obtain ⟨b, off, eAv, hblt, hrg⟩ := hOs.range hnl
   obtain ⟨bdp, rp, qp⟩ := hOs.ok _ (List.getElem_mem hnl)
   generalize acc[n] = x at *
   subst eAv
   have p0 : ∀ w', Up Y w' → w'.cell? ⟨b, off + n * 15, none⟩ = some (.int .i64 x.o.ac) := fun w' u => u.cell (hrg 0 _ rfl)
   have p1 : ∀ w', Up Y w' → w'.cell? ⟨b, off + n * 15 + 1, none⟩ = some (.int .i64 x.o.ad) := fun w' u => u.cell (hrg 1 _ rfl)
   have p2 : ∀ w', Up Y w' → w'.cell? ⟨b, off + n * 15 + 2, none⟩ = some (.int .i64 x.o.kd) := fun w' u => u.cell (hrg 2 _ rfl)
   have p3 : ∀ w', Up Y w' → w'.cell? ⟨b, off + n * 15 + 3, none⟩ = some (.int .i64 x.o.rc) := fun w' u => u.cell (hrg 3 _ rfl)
   have p4 : ∀ w', Up Y w' → w'.cell? ⟨b, off + n * 15 + 4, none⟩ = some (.int .i64 x.o.id) := fun w' u => u.cell (hrg 4 _ rfl)
   have p5 : ∀ w', Up Y w' → w'.cell? ⟨b, off + n * 15 + 5, none⟩ = some (.int .i64 x.o.ti) := fun w' u => u.cell (hrg 5 _ rfl)
   have p6 : ∀ w', Up Y w' → w'.cell? ⟨b, off + n * 15 + 6, none⟩ = some (.int .i64 x.o.pa) := fun w' u => u.cell (hrg 6 _ rfl)
   have p7 : ∀ w', Up Y w' → w'.cell? ⟨b, off + n * 15 + 7, none⟩ = some (.int .i64 x.o.sf) := fun w' u => u.cell (hrg 7 _ rfl)
   have p8 : ∀ w', Up Y w' → w'.cell? ⟨b, off + n * 15 + 8, none⟩ = some (.int .i64 x.o.st) := fun w' u => u.cell (hrg 8 _ rfl)
   have p9 : ∀ w', Up Y w' → w'.cell? ⟨b, off + n * 15 + 9, none⟩ = some (.int .i64 x.o.rk) := fun w' u => u.cell (hrg 9 _ rfl)
   have p10 : ∀ w', Up Y w' → w'.cell? ⟨b, off + n * 15 + 10, none⟩ = some (.string ⟨x.o.nt.toArray⟩) := fun w' u => u.cell (hrg 10 _ rfl)
   have p11 : ∀ w', Up Y w' → w'.cell? ⟨b, off + n * 15 + 11, none⟩ = some (.int .i64 x.o.se) := fun w' u => u.cell (hrg 11 _ rfl)
   have p12 : ∀ w', Up Y w' → w'.cell? ⟨b, off + n * 15 + 12, none⟩ = some (.int .i64 x.o.nn) := fun w' u => u.cell (hrg 12 _ rfl)
   have p13 : ∀ w', Up Y w' → w'.cell? ⟨b, off + n * 15 + 13, none⟩ = some (.string ⟨x.o.tx.toArray⟩) := fun w' u => u.cell (hrg 13 _ rfl)
   have p14 : ∀ w', Up Y w' → w'.cell? ⟨b, off + n * 15 + 14, none⟩ = some (.slice x.A x.o.ov.length x.c) := fun w' u => u.cell (hrg 14 _ rfl)
   have r0 : ∀ w', Up Y w' → w'.cell? ⟨W.heap.size, 0, none⟩ = some (.int .i64 o.ac) := fun w' u => by rw [(hyb.up u).cell]; rfl
   have r1 : ∀ w', Up Y w' → w'.cell? ⟨W.heap.size, 1, none⟩ = some (.int .i64 o.ad) := fun w' u => by rw [(hyb.up u).cell]; rfl
   have r2 : ∀ w', Up Y w' → w'.cell? ⟨W.heap.size, 2, none⟩ = some (.int .i64 o.kd) := fun w' u => by rw [(hyb.up u).cell]; rfl
   have r3 : ∀ w', Up Y w' → w'.cell? ⟨W.heap.size, 3, none⟩ = some (.int .i64 o.rc) := fun w' u => by rw [(hyb.up u).cell]; rfl
   have r4 : ∀ w', Up Y w' → w'.cell? ⟨W.heap.size, 4, none⟩ = some (.int .i64 o.id) := fun w' u => by rw [(hyb.up u).cell]; rfl
   have r5 : ∀ w', Up Y w' → w'.cell? ⟨W.heap.size, 5, none⟩ = some (.int .i64 o.ti) := fun w' u => by rw [(hyb.up u).cell]; rfl
   have r6 : ∀ w', Up Y w' → w'.cell? ⟨W.heap.size, 6, none⟩ = some (.int .i64 o.pa) := fun w' u => by rw [(hyb.up u).cell]; rfl
   have r7 : ∀ w', Up Y w' → w'.cell? ⟨W.heap.size, 7, none⟩ = some (.int .i64 o.sf) := fun w' u => by rw [(hyb.up u).cell]; rfl
   have r8 : ∀ w', Up Y w' → w'.cell? ⟨W.heap.size, 8, none⟩ = some (.int .i64 o.st) := fun w' u => by rw [(hyb.up u).cell]; rfl
   have r9 : ∀ w', Up Y w' → w'.cell? ⟨W.heap.size, 9, none⟩ = some (.int .i64 o.rk) := fun w' u => by rw [(hyb.up u).cell]; rfl
   have r10 : ∀ w', Up Y w' → w'.cell? ⟨W.heap.size, 10, none⟩ = some (.string ⟨o.nt.toArray⟩) := fun w' u => by rw [(hyb.up u).cell]; rfl
   have r11 : ∀ w', Up Y w' → w'.cell? ⟨W.heap.size, 11, none⟩ = some (.int .i64 o.se) := fun w' u => by rw [(hyb.up u).cell]; rfl
   have r12 : ∀ w', Up Y w' → w'.cell? ⟨W.heap.size, 12, none⟩ = some (.int .i64 o.nn) := fun w' u => by rw [(hyb.up u).cell]; rfl
   have r13 : ∀ w', Up Y w' → w'.cell? ⟨W.heap.size, 13, none⟩ = some (.string ⟨o.tx.toArray⟩) := fun w' u => by rw [(hyb.up u).cell]; rfl
   have r14 : ∀ w', Up Y w' → w'.cell? ⟨W.heap.size, 14, none⟩ = some (.slice Ay o.ov.length cy) := fun w' u => by rw [(hyb.up u).cell]; rfl
   have cr2 : ∀ w', Up Y w' → w'.cell? ⟨G, 2, none⟩ = some (.slice (some ⟨b, off, none⟩) acc.length cv) := fun w' u => by rw [(hGb.up u).cell]; rfl
   have t0 : decide (0 < (acc.length : Int)) = true := decide_eq_true (by omega)
   have t0' : decide (0 < acc.length) = true := decide_eq_true (by omega)
   have t2 : (n : Int) < (acc.length : Int) := by omega
   have t3 : 0 ≤ (n : Int) := by omega
   have t4 : IntKind.i64.wrap ((acc.length : Int) - 1) = (n : Int) := by rw [show (acc.length : Int) - 1 = (n : Int) by omega]; exact wrap_nat n (by omega)
   have hs := fun w => stamp_eql x.o.ac x.o.ad o.ac o.ad w
   have hHN := Lib.hid hn
   have hNL := Lib.hid hnl
   clear hn hnl hrg hOs
   rcases he : (x.o.ac == o.ac && x.o.ad == o.ad) with _ | _
   ·have HDX := Lib.hid (dd_add (x := ⟨o, Ay, cy⟩) hDD'.out (dd_new hlst.out (atEq_no he)))
    rw [he] at hs
    clear he
    gi_wp2
    refine wpIn_round_held (S := fun w' => Up Y w') (fun _ _ h => h) (by kernel_rfl) (by kernel_rfl) (Up.drew Y) (fun hHeld => ?_)
    refine tk 0 23 (v := ?_) ?_ ?_
    rotate_left
    ·intro w' hSw; clear hSw; go_simp; try (with_reducible rfl)
    try simp only [tkA, tkB, tkC]
    refine tk 1 24 (v := ?_) ?_ ?_
    rotate_left
    ·intro w' hSw; clear hSw; go_simp; try (with_reducible rfl)
    try simp only [tkA, tkB, tkC]
    refine tk 2 25 (v := ?_) ?_ ?_
    rotate_left
    ·intro w' hSw; clear hSw; go_simp; try (with_reducible rfl)
    try simp only [tkA, tkB, tkC]
    refine tk 3 26 (v := ?_) ?_ ?_
    rotate_left
    ·intro w' hSw; clear hSw; go_simp; try (with_reducible rfl)
    try simp only [tkA, tkB, tkC]
    refine tk 4 27 (v := ?_) ?_ ?_
    rotate_left
    ·intro w' hS0; go_simp; try (with_reducible rfl)
    try simp only [tkA, tkB, tkC]
    refine tk 5 28 (v := ?_) ?_ ?_
    rotate_left
    ·intro w' hSw; clear hSw; go_simp; try (with_reducible rfl)
    try simp only [tkA, tkB, tkC]
    refine tk 6 29 (v := ?_) ?_ ?_
    rotate_left
    ·intro w' hSw; clear hSw; go_simp; try (with_reducible rfl)
    try simp only [tkA, tkB, tkC]
    refine tk 7 30 (v := ?_) ?_ ?_
    rotate_left
    ·intro w' hSw; clear hSw; go_simp; try (with_reducible rfl)
    try simp only [tkA, tkB, tkC]
    refine tk 8 31 (v := ?_) ?_ ?_
    rotate_left
    ·intro w' hSw; clear hSw; go_simp; try (with_reducible rfl)
    try simp only [tkA, tkB, tkC]
    refine tk 9 32 (v := ?_) ?_ ?_
    rotate_left
    ·intro w' hS0; go_simp; try (with_reducible rfl)
    try simp only [tkA, tkB, tkC]
    refine tk 10 33 (v := ?_) ?_ ?_
    rotate_left
    ·intro w' hSw; clear hSw; go_simp; try (with_reducible rfl)
    try simp only [tkA, tkB, tkC]
    refine tk 11 34 (v := ?_) ?_ ?_
    rotate_left
    ·intro w' hS0; go_simp; try (with_reducible rfl)
    try simp only [tkA, tkB, tkC]
    refine tk 12 35 (v := ?_) ?_ ?_
    rotate_left
    ·intro w' hSw; clear hSw; go_simp; try (with_reducible rfl)
    try simp only [tkA, tkB, tkC]
    refine tk 13 36 (v := ?_) ?_ ?_
    rotate_left
    ·intro w' hSw; clear hSw; go_simp; try (with_reducible rfl)
    try simp only [tkA, tkB, tkC]
    refine wpAnyH_done (by kernel_rfl) ?_ _
    refine NoPanic.normal ?_
    clear hHeld
    clear p0 p1 p2 p3 p4 p5 p6 p7 p8 p9 p10 p11 p12 p13 p14 r0 r1 r2 r3 r4 r5 r6 r7 r8 r9 r10 r11 r12 r13 r14 cr2 hs
    have hSn : Hid (seenOf (opL (acc ++ [⟨o, Ay, cy⟩])) = seeL (seenOf (opL acc)) o.ac o.ad) := by rw [Hid, opL_app]; exact seenOf_snoc _ _
    have hZl := seenOf_len (opL acc)
    generalize seenOf (opL acc) = Zc at *
    have ud := Up.drew Y
    have hGd := hGb.up ud
    have hSd := row_up hSr ud.b
    have hOd := row_up hOr ud.b
    have hYd := hyb.up ud
    have h4d := Lib.hid (h4'.out.up ud)
    have h5d := Lib.hid (h5'.out.up ud)
    have hBd := Lib.hid (stepB hB'.out ud.b)
    have kd := Lib.hid (koBelow ud.b)
    have xd : Hid (KpX wl.heap.size G Y Y.drew) := KpX.of ud.b hsz
    have sd : wl.heap.size ≤ Y.drew.heap.size := hsz
    clear ud hGb hSr hOr hyb h4' h5' hB' cG2
    generalize Y.drew = Yd at *
    have cGd : Yd.cell? ⟨G, 2, none⟩ = some (.slice (some ⟨b, off, none⟩) acc.length cv) := by rw [hGd.cell]; rfl
    obtain ⟨⟨m0, m1, m2, m3⟩, ⟨m4, m5, m6, m7, m8, m9, m10⟩, ⟨m11, m12, m13, m14⟩⟩ := blk_opAtJ hYd
    have hoG := row_blk hOd hGd (by decide)
    have hGd' := Lib.hid hGd
    have hSd' := Lib.hid hSd
    have hYd' := Lib.hid hYd
    clear hGd hSd hYd
    gi_wp2_with (gi_at_builtin; refine wpListIn_hold ?_)
    unfold Hold
    refine wpListIn_append_own _ rfl _ _ 25 rfl wl.heap.size 43 i0 _ 15 152 Tryz.underlying25 hi hz0 hz1 hz2 rfl (by decide) _ _ _ rfl (hOd.alloc _) ⟨Yd.heap.size, 0, none⟩ 1 1 (opC o Ay cy) rfl rfl (fun j u hu => by rw [add_plain, Nat.zero_add]; show (Yd.alloc (.cells (opC o Ay cy).toArray 43)).cell? _ = _; rw [cell_of_row _ _ _ _ _ _ (heap_alloc_new Yd _)]; simpa [opC] using hu) (fun u hu => by have := List.all_eq_true.1 (show (opC o Ay cy).all (·.oneCell') = true by simp [opC, Value.oneCell']) u hu; exact this) (by unfold maxLen; omega) (by omega) (by simp; omega) ?_
    intro v' w2 hown' hgrow _
    obtain ⟨g', cap', rfl⟩ := ownsRow_succ hown'
    have Hk := Lib.hid (row_grown (n := w.heap.size) hOd hgrow sd hwl)
    have hG2 := (hGd'.out.up (Up.alloc' Yd (.cells (opC o Ay cy).toArray 43))).kept hgrow (fun e => hoG e.symm)
    have hF2 := (hYd'.out.up (Up.alloc' Yd (.cells (opC o Ay cy).toArray 43))).kept hgrow (fun e => Nat.lt_irrefl _ (hvW.out _ e.symm))
    have h42 := Lib.hid ((h4d.out.up (Up.alloc' Yd (.cells (opC o Ay cy).toArray 43))).kept hgrow (fun e => row_blk hOd h4d.out (by decide) e.symm))
    have h52 := Lib.hid ((h5d.out.up (Up.alloc' Yd (.cells (opC o Ay cy).toArray 43))).kept hgrow (fun e => row_blk hOd h5d.out (by decide) e.symm))
    have hS2 := row_grow2 hSd'.out hOd (by decide) _ hgrow
    have k2 : w2.cell? ⟨G, 2, none⟩ = some (.slice (some ⟨b, off, none⟩) acc.length cv) := by rw [hG2.cell]; rfl
    have f2 := hG2.free 2
    obtain ⟨vn, hvn⟩ : ∃ v, v = Value.slice (some ⟨g', 0, none⟩) (acc.length + 1) cap' := ⟨_, rfl⟩
    have hG5 := hG2.set 2 vn
    have hF5 := hF2.kept (grown_set w2 G 2 vn) hNe.out
    have hS5 := row_set (g := G) (i := 2) (u := vn) hS2 (row_blk hS2 hG2 (by decide))
    have hO5 := Lib.hid (row_set (g := G) (i := 2) (u := vn) hown' (row_blk hown' hG2 (by decide)))
    rw [hvn] at hG5 hF5 hS5 hO5
    have k1 : (w2.setCell ⟨G, 2, none⟩ (.slice (some ⟨g', 0, none⟩) (acc.length + 1) cap')).cell? ⟨G, 1, none⟩ = some (.slice A' 15 c') := by rw [hG5.cell]; rfl
    have n0 : (w2.setCell ⟨G, 2, none⟩ (.slice (some ⟨g', 0, none⟩) (acc.length + 1) cap')).cell? ⟨W.heap.size, 0, none⟩ = some (.int .i64 o.ac) := by rw [hF5.cell]; rfl
    have n1 : (w2.setCell ⟨G, 2, none⟩ (.slice (some ⟨g', 0, none⟩) (acc.length + 1) cap')).cell? ⟨W.heap.size, 1, none⟩ = some (.int .i64 o.ad) := by rw [hF5.cell]; rfl
    have hRd5 := row_rd hS5
    have hG5 := Lib.hid hG5
    clear hvn vn hG2 hF2 hS2 hF5 hgrow hown' hOd hYd' hGd' hSd' m0 m1 m2 m3 m4 m5 m6 m7 m8 m9 m10 m11 m12 m13 m14 cGd hoG h4d h5d
    have kS := see_any _ A' c' Zc hRd5 (by omega) o.ac o.ad
    unfold RetInts at kS
    simp only [seeL_length, hZl] at kS
    gi_wp2_with (refine ⟨trivial, ?_⟩; gi_at_call 27; refine (CallsIn.inRound l (callsIn_wide.2 kS)).mono ?_; rintro e w6 ⟨A6, c6, rfl, hown6, hb6⟩; have hG6 := hG5.out.up (Up.of hb6); have q1 : w6.cell? ⟨G, 1, none⟩ = some (.slice A' 15 c') := by { rw [hG6.cell]; rfl }; have f6 := hG6.free 1; have HB6 := Lib.hid hb6; have OW6 := Lib.hid hown6; have HG6 := Lib.hid hG6; clear hb6 hown6 hG6 hG5 hRd5 hS5 kS k1 n0 n1 k2 f2)
    have e5 : (w2.setCell ⟨G, 2, none⟩ (.slice (some ⟨g', 0, none⟩) (acc.length + 1) cap')).heap.size = w2.heap.size := grown_set_size w2 G 2 _
    have hn4 : some (w.heap.size + 1) ≠ some G := by simp; omega
    have hn5 : some (w.heap.size + 1 + 1) ≠ some G := by simp; omega
    have hs2 : wl.heap.size ≤ w2.heap.size := Nat.le_trans sd (Hk.out.2.1 0).size
    have hwG : w.heap.size ≤ G := by omega
    rcases OW6.out with hr6 | ⟨h0, _⟩
    rotate_left
    ·cases h0
    have hb6' := HB6.out
    rw [e5] at hr6 hb6'
    have O6 := row_set (g := G) (i := 1) (u := .slice A6 15 c6) (row_up hO5.out HB6.out) (row_blk (row_up hO5.out HB6.out) HG6.out (by decide))
    refine ⟨((((kd.out.trans Hk.out.1).trans (KeepsOthers.setCell w2 _ _)).trans (koBelow HB6.out)).trans (KeepsOthers.setCell w6 _ _)).from _,
     (((xd.out.trans (Hk.out.2.1 G)).trans (KpX.setG w2 2 _)).trans (KpX.of HB6.out (by rw [e5]; exact hs2))).trans (KpX.setG w6 1 _),
     ⟨((h42.out.kept (grown_set w2 G 2 _) hn4).up (Up.of HB6.out)).kept (grown_set w6 G 1 _) hn4, ((h52.out.kept (grown_set w2 G 2 _) hn5).up (Up.of HB6.out)).kept (grown_set w6 G 1 _) hn5,
      (stepB ((hBd.out.trans Hk.out.2.2).setCell (p := ⟨G, 2, none⟩) hwG _) HB6.out).setCell (p := ⟨G, 1, none⟩) hwG _, by rw [grown_set_size]; have := hb6'.size; omega⟩,
     acc ++ [⟨o, Ay, cy⟩], A6, c6, some ⟨g', 0, none⟩, cap', ⟨?_, ?_, ?_⟩, ?_, ?_, by rw [opL_app]; exact HDX.out⟩
    ·rw [List.length_append]; exact HG6.out.set 1 _
    ·rw [hSn.out]; exact row_lower (row_set hr6 (row_blk hr6 HG6.out (by decide))) (by omega)
    ·rw [List.length_append, opsC_app]; exact O6
    ·intro x hx'
     rcases List.mem_append.1 hx' with h | h
     ·exact hM'.out x h
     ·rw [List.mem_singleton.1 h]; exact hYm.out
    ·rw [List.length_append, List.length_append]; exact Nat.add_le_add_right hL'.out 1
   ·rw [he] at hs
    have hEq := Lib.hid (atEq_yes he)
    clear he
    gi_wp2
    refine wpIn_round_held (S := fun w' => Up Y w') (fun _ _ h => h) (by kernel_rfl) (by kernel_rfl) (Up.drew Y) (fun hHeld => ?_)
    refine tk 0 23 (v := ?_) ?_ ?_
    rotate_left
    ·intro w' hSw; clear hSw; go_simp; try (with_reducible rfl)
    try simp only [tkA, tkB, tkC]
    refine tk 1 24 (v := ?_) ?_ ?_
    rotate_left
    ·intro w' hSw; clear hSw; go_simp; try (with_reducible rfl)
    try simp only [tkA, tkB, tkC]
    refine tk 2 25 (v := ?_) ?_ ?_
    rotate_left
    ·intro w' hSw; clear hSw; go_simp; try (with_reducible rfl)
    try simp only [tkA, tkB, tkC]
    refine tk 3 26 (v := ?_) ?_ ?_
    rotate_left
    ·intro w' hSw; clear hSw; go_simp; try (with_reducible rfl)
    try simp only [tkA, tkB, tkC]
    refine tk 4 27 (v := ?_) ?_ ?_
    rotate_left
    ·intro w' hS0; go_simp; try (with_reducible rfl)
    try simp only [tkA, tkB, tkC]
    refine tk 5 28 (v := ?_) ?_ ?_
    rotate_left
    ·intro w' hSw; clear hSw; go_simp; try (with_reducible rfl)
    try simp only [tkA, tkB, tkC]
    refine tk 6 29 (v := ?_) ?_ ?_
    rotate_left
    ·intro w' hSw; clear hSw; go_simp; try (with_reducible rfl)
    try simp only [tkA, tkB, tkC]
    refine tk 7 30 (v := ?_) ?_ ?_
    rotate_left
    ·intro w' hSw; clear hSw; go_simp; try (with_reducible rfl)
    try simp only [tkA, tkB, tkC]
    refine tk 8 31 (v := ?_) ?_ ?_
    rotate_left
    ·intro w' hSw; clear hSw; go_simp; try (with_reducible rfl)
    try simp only [tkA, tkB, tkC]
    refine tk 9 32 (v := ?_) ?_ ?_
    rotate_left
    ·intro w' hS0; go_simp; try (with_reducible rfl)
    try simp only [tkA, tkB, tkC]
    refine tk 10 33 (v := ?_) ?_ ?_
    rotate_left
    ·intro w' hSw; clear hSw; go_simp; try (with_reducible rfl)
    try simp only [tkA, tkB, tkC]
    refine tk 11 34 (v := ?_) ?_ ?_
    rotate_left
    ·intro w' hS0; go_simp; try (with_reducible rfl)
    try simp only [tkA, tkB, tkC]
    refine tk 12 35 (v := ?_) ?_ ?_
    rotate_left
    ·intro w' hSw; clear hSw; go_simp; try (with_reducible rfl)
    try simp only [tkA, tkB, tkC]
    refine tk 13 36 (v := ?_) ?_ ?_
    rotate_left
    ·intro w' hSw; clear hSw; go_simp; try (with_reducible rfl)
    try simp only [tkA, tkB, tkC]
    refine wpAnyH_done (by kernel_rfl) ?_ _
    refine NoPanic.normal ?_
    clear hHeld
    have hud := Up.drew Y
    generalize Y.drew = Yd at *
    have p0 := fun w' (u : Up Yd w') => p0 w' (hud.trans u)
    have p1 := fun w' (u : Up Yd w') => p1 w' (hud.trans u)
    have p2 := fun w' (u : Up Yd w') => p2 w' (hud.trans u)
    have p3 := fun w' (u : Up Yd w') => p3 w' (hud.trans u)
    have p4 := fun w' (u : Up Yd w') => p4 w' (hud.trans u)
    have p5 := fun w' (u : Up Yd w') => p5 w' (hud.trans u)
    have p6 := fun w' (u : Up Yd w') => p6 w' (hud.trans u)
    have p7 := fun w' (u : Up Yd w') => p7 w' (hud.trans u)
    have p8 := fun w' (u : Up Yd w') => p8 w' (hud.trans u)
    have p9 := fun w' (u : Up Yd w') => p9 w' (hud.trans u)
    have p10 := fun w' (u : Up Yd w') => p10 w' (hud.trans u)
    have p11 := fun w' (u : Up Yd w') => p11 w' (hud.trans u)
    have p12 := fun w' (u : Up Yd w') => p12 w' (hud.trans u)
    have p13 := fun w' (u : Up Yd w') => p13 w' (hud.trans u)
    have p14 := fun w' (u : Up Yd w') => p14 w' (hud.trans u)
    have r0 := fun w' (u : Up Yd w') => r0 w' (hud.trans u)
    have r1 := fun w' (u : Up Yd w') => r1 w' (hud.trans u)
    have r2 := fun w' (u : Up Yd w') => r2 w' (hud.trans u)
    have r3 := fun w' (u : Up Yd w') => r3 w' (hud.trans u)
    have r4 := fun w' (u : Up Yd w') => r4 w' (hud.trans u)
    have r5 := fun w' (u : Up Yd w') => r5 w' (hud.trans u)
    have r6 := fun w' (u : Up Yd w') => r6 w' (hud.trans u)
    have r7 := fun w' (u : Up Yd w') => r7 w' (hud.trans u)
    have r8 := fun w' (u : Up Yd w') => r8 w' (hud.trans u)
    have r9 := fun w' (u : Up Yd w') => r9 w' (hud.trans u)
    have r10 := fun w' (u : Up Yd w') => r10 w' (hud.trans u)
    have r11 := fun w' (u : Up Yd w') => r11 w' (hud.trans u)
    have r12 := fun w' (u : Up Yd w') => r12 w' (hud.trans u)
    have r13 := fun w' (u : Up Yd w') => r13 w' (hud.trans u)
    have r14 := fun w' (u : Up Yd w') => r14 w' (hud.trans u)
    have cr2 := fun w' (u : Up Yd w') => cr2 w' (hud.trans u)
    have kS := fun w' (u : Up Yd w') => osame_any w' x.o o x.A Ay x.c cy (rp.below (hud.trans u).b) (ro.below (hud.trans u).b) bdp.ol bd.ol
    unfold opV opC at kS
    have H7 := Lib.hid hud
    have hGb' := Lib.hid hGb
    have hOr' := Lib.hid hOr
    have hSr' := Lib.hid hSr
    clear hud hs hGb hOr hSr hyb cG2
    rcases hsm : sameB x.o o with _ | _
    ·have HDX := Lib.hid (dd_fail (x := ⟨o, Ay, cy⟩) hC'.out hDD'.out (dd_twice hlst.out hEq.out hsm))
     simp only [hsm] at kS
     clear hsm
     gi_wp2
     refine wpIn_round_held (S := fun w' => Up Yd w') (fun _ _ h => h) (by kernel_rfl) (by kernel_rfl) (Up.drew Yd) (fun hHeld => ?_)
     refine tk 0 37 (v := ?_) ?_ ?_
     rotate_left
     ·intro w' hSw; clear hSw; go_simp; try (with_reducible rfl)
     try simp only [tkA, tkB, tkC]
     refine tk 1 38 (v := ?_) ?_ ?_
     rotate_left
     ·intro w' hS0; go_simp; try (with_reducible rfl)
     try simp only [tkA, tkB, tkC]
     refine tk 2 39 (v := ?_) ?_ ?_
     rotate_left
     ·intro w' hSw; clear hSw; go_simp; try (with_reducible rfl)
     try simp only [tkA, tkB, tkC]
     refine tk 3 40 (v := ?_) ?_ ?_
     rotate_left
     ·intro w' hSw; clear hSw; go_simp; try (with_reducible rfl)
     try simp only [tkA, tkB, tkC]
     refine tk 4 41 (v := ?_) ?_ ?_
     rotate_left
     ·intro w' hSw; clear hSw; go_simp; try (with_reducible rfl)
     try simp only [tkA, tkB, tkC]
     refine tk 5 42 (v := ?_) ?_ ?_
     rotate_left
     ·intro w' hS0; go_simp; try (with_reducible rfl)
     try simp only [tkA, tkB, tkC]
     refine tk 6 43 (v := ?_) ?_ ?_
     rotate_left
     ·intro w' hS0; go_simp; try (with_reducible rfl)
     try simp only [tkA, tkB, tkC]
     refine wpAnyH_ready (rs := [7]) (by kernel_rfl) (by simp) ?_
     refine AllReadyH.cons rfl (fun K hK => ?_) AllReadyH.nil
     go_simp
     go_at_call 26
     refine (kS _ hHeld).mono ?_
     rintro e w7 ⟨rfl, hb7⟩
     have hu7 : Up Yd w7 := hHeld.trans (Up.of hb7)
     refine hK.out _ _ hu7 (fun hHeld => ?_)
     clear hK K hHeld
     refine wpAnyH_more (S' := fun w' => Up w7 w') (fun w' h => Up.trans hu7 h) _ _ _ _ ?_
     have hHeld := Up.refl w7
     refine tk 8 45 (v := ?_) ?_ ?_
     rotate_left
     ·intro w' hSw; clear hSw; go_simp; try (with_reducible rfl)
     try simp only [tkA, tkB, tkC]
     refine wpAnyH_done (by kernel_rfl) ?_ _
     refine NoPanic.normal ?_
     clear hHeld
     have u7 := H7.out.trans hu7
     have h47 := h4'.out.up u7
     have h57 := h5'.out.up u7
     have b0 : w7.cell? ⟨w.heap.size + 1, 0, none⟩ = some (.int .i64 0) := by rw [h47.cell]; rfl
     have b1 : w7.cell? ⟨w.heap.size + 1, 1, none⟩ = some (.slice none 0 0) := by rw [h47.cell]; rfl
     have b2 : w7.cell? ⟨w.heap.size + 1, 2, none⟩ = some (.slice none 0 0) := by rw [h47.cell]; rfl
     have b3 : w7.cell? ⟨w.heap.size + 1 + 1, 0, none⟩ = some (.int .i64 0) := by rw [h57.cell]; rfl
     have f0 := h47.free 0
     have f1 := h47.free 1
     have f2 := h47.free 2
     have f3 := h57.free 0
     have U7 := Lib.hid u7
     have H47 := Lib.hid h47
     have H57 := Lib.hid h57
     clear p0 p1 p2 p3 p4 p5 p6 p7 p8 p9 p10 p11 p12 p13 p14 r0 r1 r2 r3 r4 r5 r6 r7 r8 r9 r10 r11 r12 r13 r14 cr2 kS u7 h47 h57
     gi_wp2
     have n45 : some (w.heap.size + 1) ≠ some (w.heap.size + 1 + 1) := by simp
     have n54 : some (w.heap.size + 1 + 1) ≠ some (w.heap.size + 1) := by simp
     exact ⟨(((((koBelow U7.out.b).trans (KeepsOthers.setCell w7 _ _)).trans (KeepsOthers.setCell _ _ _)).trans (KeepsOthers.setCell _ _ _)).trans (KeepsOthers.setCell _ _ _)).from _,
      rfl, HDX.out, (((H47.out.set 0 _).set 1 _).set 2 _).kept (grown_set _ _ _ _) n45, (((H57.out.kept (grown_set _ _ _ _) n54).kept (grown_set _ _ _ _) n54).kept (grown_set _ _ _ _) n54).set 0 _,
      ((((stepB hB'.out U7.out.b).setCell (p := ⟨w.heap.size + 1, 0, none⟩) (by show w.heap.size ≤ w.heap.size + 1; omega) _).setCell (p := ⟨w.heap.size + 1, 1, none⟩) (by show w.heap.size ≤ w.heap.size + 1; omega) _).setCell (p := ⟨w.heap.size + 1, 2, none⟩) (by show w.heap.size ≤ w.heap.size + 1; omega) _).setCell (p := ⟨w.heap.size + 1 + 1, 0, none⟩) (by show w.heap.size ≤ w.heap.size + 1 + 1; omega) _⟩
    ·have HDX := Lib.hid (dd_same (x := ⟨o, Ay, cy⟩) hDD'.out (dd_skip hlst.out hEq.out hsm))
     simp only [hsm] at kS
     clear hsm
     gi_wp2
     refine wpIn_round_held (S := fun w' => Up Yd w') (fun _ _ h => h) (by kernel_rfl) (by kernel_rfl) (Up.drew Yd) (fun hHeld => ?_)
     refine tk 0 37 (v := ?_) ?_ ?_
     rotate_left
     ·intro w' hSw; clear hSw; go_simp; try (with_reducible rfl)
     try simp only [tkA, tkB, tkC]
     refine tk 1 38 (v := ?_) ?_ ?_
     rotate_left
     ·intro w' hS0; go_simp; try (with_reducible rfl)
     try simp only [tkA, tkB, tkC]
     refine tk 2 39 (v := ?_) ?_ ?_
     rotate_left
     ·intro w' hSw; clear hSw; go_simp; try (with_reducible rfl)
     try simp only [tkA, tkB, tkC]
     refine tk 3 40 (v := ?_) ?_ ?_
     rotate_left
     ·intro w' hSw; clear hSw; go_simp; try (with_reducible rfl)
     try simp only [tkA, tkB, tkC]
     refine tk 4 41 (v := ?_) ?_ ?_
     rotate_left
     ·intro w' hSw; clear hSw; go_simp; try (with_reducible rfl)
     try simp only [tkA, tkB, tkC]
     refine tk 5 42 (v := ?_) ?_ ?_
     rotate_left
     ·intro w' hS0; go_simp; try (with_reducible rfl)
     try simp only [tkA, tkB, tkC]
     refine tk 6 43 (v := ?_) ?_ ?_
     rotate_left
     ·intro w' hS0; go_simp; try (with_reducible rfl)
     try simp only [tkA, tkB, tkC]
     refine wpAnyH_ready (rs := [7]) (by kernel_rfl) (by simp) ?_
     refine AllReadyH.cons rfl (fun K hK => ?_) AllReadyH.nil
     go_simp
     go_at_call 26
     refine (kS _ hHeld).mono ?_
     rintro e w7 ⟨rfl, hb7⟩
     have hu7 : Up Yd w7 := hHeld.trans (Up.of hb7)
     refine hK.out _ _ hu7 (fun hHeld => ?_)
     clear hK K hHeld
     refine wpAnyH_more (S' := fun w' => Up w7 w') (fun w' h => Up.trans hu7 h) _ _ _ _ ?_
     have hHeld := Up.refl w7
     refine tk 8 45 (v := ?_) ?_ ?_
     rotate_left
     ·intro w' hSw; clear hSw; go_simp; try (with_reducible rfl)
     try simp only [tkA, tkB, tkC]
     refine wpAnyH_done (by kernel_rfl) ?_ _
     refine NoPanic.normal ?_
     clear hHeld
     have U7 := Lib.hid (H7.out.trans hu7)
     clear p0 p1 p2 p3 p4 p5 p6 p7 p8 p9 p10 p11 p12 p13 p14 r0 r1 r2 r3 r4 r5 r6 r7 r8 r9 r10 r11 r12 r13 r14 cr2 kS
     gi_wp2
     exact ⟨(koBelow U7.out.b).from _, KpX.of U7.out.b hsz, ⟨h4'.out.up U7.out, h5'.out.up U7.out, stepB hB'.out U7.out.b, Nat.le_trans hsz U7.out.b.size⟩,
      acc, A', c', some ⟨b, off, none⟩, cv, ⟨hGb'.out.up U7.out, row_up hSr'.out U7.out.b, row_up hOr'.out U7.out.b⟩, hM'.out, by rw [List.length_append]; exact Nat.le_succ_of_le hL'.out, by rw [opL_app]; exact HDX.out⟩
 case stop =>
  rintro D c' pre W hD ⟨rfl, hX, h4, h5, hB⟩ hK
  have HX := Lib.hid (mrg_none (dev := dev) (HD.out.symm.trans hX))
  have h4' := Lib.hid h4
  have h5' := Lib.hid h5
  have hB' := Lib.hid hB
  clear h4 h5 hB
  have p0 : (W.putObj D (.deferred none)).cell? ⟨w.heap.size + 1, 0, none⟩ = some (.int .i64 0) := by rw [(put_blk (o' := .deferred none) h4'.out hK rfl).cell]; rfl
  have p1 : (W.putObj D (.deferred none)).cell? ⟨w.heap.size + 1, 1, none⟩ = some (.slice none 0 0) := by rw [(put_blk (o' := .deferred none) h4'.out hK rfl).cell]; rfl
  have p2 : (W.putObj D (.deferred none)).cell? ⟨w.heap.size + 1, 2, none⟩ = some (.slice none 0 0) := by rw [(put_blk (o' := .deferred none) h4'.out hK rfl).cell]; rfl
  have p3 : (W.putObj D (.deferred none)).cell? ⟨w.heap.size + 1 + 1, 0, none⟩ = some (.int .i64 8) := by rw [(put_blk (o' := .deferred none) h5'.out hK rfl).cell]; rfl
  have hbP : Below w.heap.size w (W.putObj D (.deferred none)) := hB'.out.trans (belowK_b (w := w) (Nat.le_refl _) W D _ (.deferred none) (by omega) hK rfl rfl)
  gi_wp2
  refine ⟨by simp, .inl ⟨_, _, rfl, run_takeDeferred (w := W) hK, ?_⟩⟩
  refine ⟨.tuple #[.agg #[.int .i64 0, .slice none 0 0, .slice none 0 0], .int .i64 8], by simp [results, Tryz.results15, go_sem, p0, p1, p2, p3], ?_⟩
  rw [retMrg_err w HX.out (by decide)]
  exact ⟨none, 0, none, 0, [], rfl, Rd.nil _ _, Nat.le_refl _, OpsRd.nil _ _, rfl, Nat.le_refl _, hbP, From.nil _ _, From.nil _ _⟩
 case done =>
  rintro D zs W hD rfl ⟨⟨h4, h5, hB, hsY⟩, acc, A', c', Av, cv, ⟨hGb, hSr, hOr⟩, hM, hL, hDD⟩ hK
  have hR : Hid (refM [] (opL xs) = some (opL acc)) := by
   have := hDD []
   rw [List.append_nil, HD.out] at this
   exact this
  have hE := mrg_some (dev := dev) hR.out
  have hRd := row_rd hSr
  have hOs : OpsRd W Av acc := ⟨row_rd hOr, fun x hx' => (hx.ok x (HM.out x (hM x hx'))).below hB⟩
  have kC := repCheck_of W dev A' c' (seenOf (opL acc)) Av cv acc hRd (by rw [seenOf_len]; unfold maxLen; omega) hOs (hT.below hB) (hF.below hB) (fun k hk => oneSpec _ _)
  rw [seenOf_len] at kC
  have hfA := Lib.hid (row_from (l := (seenOf (opL acc)).map I64) hSr (Nat.le_refl _))
  have hfO := Lib.hid (row_from (l := opsC acc) hOr (Nat.le_refl _))
  have hcc := Lib.hid (row_cap hSr).2
  have hcb := Lib.hid (row_cap hOr).2
  have HR := hR
  have hM := Lib.hid hM
  generalize chkE dev (opL acc) (seenOf (opL acc)) = E at *
  have HE := Lib.hid hE
  have cG0 : W.cell? ⟨G, 0, none⟩ = some (.int .i64 dev) := by rw [hGb.cell]; rfl
  have cG1 : W.cell? ⟨G, 1, none⟩ = some (.slice A' 15 c') := by rw [hGb.cell]; rfl
  have cG2 : W.cell? ⟨G, 2, none⟩ = some (.slice Av acc.length cv) := by rw [hGb.cell]; rfl
  have hB' := Lib.hid hB
  have h4' := Lib.hid h4
  have h5' := Lib.hid h5
  have hGb' := Lib.hid hGb
  have hRb' := Lib.hid hRd
  have hOb' := Lib.hid hOs
  have hDD' := Lib.hid hDD
  clear hB h4 h5 hGb hRd hOs hSr hOr hE hDD hR hL
  by_cases he : E = 0
  ·subst he
   gi_wp2_with (refine ⟨trivial, ?_⟩; gi_at_call 28; refine wpListIn_hold ?_)
   unfold Hold
   refine (callsIn_wide.2 kC).mono ?_
   rintro e w8 ⟨rfl, hb8⟩
   have u8 := Up.of hb8
   have hG8 := hGb'.out.up u8
   have h48 := h4'.out.up u8
   have h58 := h5'.out.up u8
   have a0 : w8.cell? ⟨G, 0, none⟩ = some (.int .i64 dev) := by rw [hG8.cell]; rfl
   have a1 : w8.cell? ⟨G, 1, none⟩ = some (.slice A' 15 c') := by rw [hG8.cell]; rfl
   have a2 : w8.cell? ⟨G, 2, none⟩ = some (.slice Av acc.length cv) := by rw [hG8.cell]; rfl
   have b0 : w8.cell? ⟨w.heap.size + 1, 0, none⟩ = some (.int .i64 0) := by rw [h48.cell]; rfl
   have b1 : w8.cell? ⟨w.heap.size + 1, 1, none⟩ = some (.slice none 0 0) := by rw [h48.cell]; rfl
   have b2 : w8.cell? ⟨w.heap.size + 1, 2, none⟩ = some (.slice none 0 0) := by rw [h48.cell]; rfl
   have b3 : w8.cell? ⟨w.heap.size + 1 + 1, 0, none⟩ = some (.int .i64 0) := by rw [h58.cell]; rfl
   have f0 := h48.free 0
   have f1 := h48.free 1
   have f2 := h48.free 2
   have f3 := h58.free 0
   have hK8 : w8.heap[D]? = some (.deferred (some [])) := (hb8.block D (Array.getElem?_eq_some_iff.1 hK).1).trans hK
   have hK8 := Lib.hid hK8
   have U8 := Lib.hid u8
   have H48 := Lib.hid h48
   have H58 := Lib.hid h58
   clear kC u8 hG8 h48 h58 hb8 hK cG0 cG1 cG2
   gi_wp2
   have hKF : ((((w8.setCell ⟨w.heap.size + 1, 0, none⟩ (.int .i64 dev)).setCell ⟨w.heap.size + 1, 1, none⟩ (.slice A' 15 c')).setCell ⟨w.heap.size + 1, 2, none⟩ (.slice Av acc.length cv)).setCell ⟨w.heap.size + 1 + 1, 0, none⟩ (.int .i64 0)).heap[D]? = some (.deferred (some [])) := ((((KeepsOthers.setCell w8 _ _).trans (KeepsOthers.setCell _ _ _)).trans (KeepsOthers.setCell _ _ _)).trans (KeepsOthers.setCell _ _ _)).same D _ hK8.out rfl
   have n45 : some (w.heap.size + 1) ≠ some (w.heap.size + 1 + 1) := by simp
   have n54 : some (w.heap.size + 1 + 1) ≠ some (w.heap.size + 1) := by simp
   have h4F : Blk ((((w8.setCell ⟨w.heap.size + 1, 0, none⟩ (.int .i64 dev)).setCell ⟨w.heap.size + 1, 1, none⟩ (.slice A' 15 c')).setCell ⟨w.heap.size + 1, 2, none⟩ (.slice Av acc.length cv)).setCell ⟨w.heap.size + 1 + 1, 0, none⟩ (.int .i64 0)) (w.heap.size + 1) 27 #[.int .i64 dev, .slice A' 15 c', .slice Av acc.length cv] := (((H48.out.set 0 _).set 1 _).set 2 _).kept (grown_set _ _ _ _) n45
   have h5F : Blk ((((w8.setCell ⟨w.heap.size + 1, 0, none⟩ (.int .i64 dev)).setCell ⟨w.heap.size + 1, 1, none⟩ (.slice A' 15 c')).setCell ⟨w.heap.size + 1, 2, none⟩ (.slice Av acc.length cv)).setCell ⟨w.heap.size + 1 + 1, 0, none⟩ (.int .i64 0)) (w.heap.size + 1 + 1) 28 #[(.int .i64 0)] := (((H58.out.kept (grown_set _ _ _ _) n54).kept (grown_set _ _ _ _) n54).kept (grown_set _ _ _ _) n54).set 0 _
   have hbF : Below w.heap.size w ((((w8.setCell ⟨w.heap.size + 1, 0, none⟩ (.int .i64 dev)).setCell ⟨w.heap.size + 1, 1, none⟩ (.slice A' 15 c')).setCell ⟨w.heap.size + 1, 2, none⟩ (.slice Av acc.length cv)).setCell ⟨w.heap.size + 1 + 1, 0, none⟩ (.int .i64 0)) := ((((stepB hB'.out U8.out.b).setCell (p := ⟨w.heap.size + 1, 0, none⟩) (by show w.heap.size ≤ w.heap.size + 1; omega) _).setCell (p := ⟨w.heap.size + 1, 1, none⟩) (by show w.heap.size ≤ w.heap.size + 1; omega) _).setCell (p := ⟨w.heap.size + 1, 2, none⟩) (by show w.heap.size ≤ w.heap.size + 1; omega) _).setCell (p := ⟨w.heap.size + 1 + 1, 0, none⟩) (by show w.heap.size ≤ w.heap.size + 1 + 1; omega) _
   have hRF : Rd ((((w8.setCell ⟨w.heap.size + 1, 0, none⟩ (.int .i64 dev)).setCell ⟨w.heap.size + 1, 1, none⟩ (.slice A' 15 c')).setCell ⟨w.heap.size + 1, 2, none⟩ (.slice Av acc.length cv)).setCell ⟨w.heap.size + 1 + 1, 0, none⟩ (.int .i64 0)) A' ((seenOf (opL acc)).map I64) := ((((hRb'.out.below U8.out.b).set (hfA.out.far (by omega)) 0 _).set (hfA.out.far (by omega)) 1 _).set (hfA.out.far (by omega)) 2 _).set (hfA.out.far (by omega)) 0 _
   have hOF : Rd ((((w8.setCell ⟨w.heap.size + 1, 0, none⟩ (.int .i64 dev)).setCell ⟨w.heap.size + 1, 1, none⟩ (.slice A' 15 c')).setCell ⟨w.heap.size + 1, 2, none⟩ (.slice Av acc.length cv)).setCell ⟨w.heap.size + 1 + 1, 0, none⟩ (.int .i64 0)) Av (opsC acc) := ((((hOb'.out.rd.below U8.out.b).set (hfO.out.far (by omega)) 0 _).set (hfO.out.far (by omega)) 1 _).set (hfO.out.far (by omega)) 2 _).set (hfO.out.far (by omega)) 0 _
   have hDs : w.heap.size ≤ D := by omega
   generalize ((((w8.setCell ⟨w.heap.size + 1, 0, none⟩ (.int .i64 dev)).setCell ⟨w.heap.size + 1, 1, none⟩ (.slice A' 15 c')).setCell ⟨w.heap.size + 1, 2, none⟩ (.slice Av acc.length cv)).setCell ⟨w.heap.size + 1 + 1, 0, none⟩ (.int .i64 0)) = wf at *
   have h4P := put_blk (o' := .deferred none) h4F hKF rfl
   have h5P := put_blk (o' := .deferred none) h5F hKF rfl
   have p0 : (wf.putObj D (.deferred none)).cell? ⟨w.heap.size + 1, 0, none⟩ = some (.int .i64 dev) := by rw [h4P.cell]; rfl
   have p1 : (wf.putObj D (.deferred none)).cell? ⟨w.heap.size + 1, 1, none⟩ = some (.slice A' 15 c') := by rw [h4P.cell]; rfl
   have p2 : (wf.putObj D (.deferred none)).cell? ⟨w.heap.size + 1, 2, none⟩ = some (.slice Av acc.length cv) := by rw [h4P.cell]; rfl
   have p3 : (wf.putObj D (.deferred none)).cell? ⟨w.heap.size + 1 + 1, 0, none⟩ = some (.int .i64 0) := by rw [h5P.cell]; rfl
   have hbP : Below w.heap.size w (wf.putObj D (.deferred none)) := hbF.trans (belowK_b (w := w) (Nat.le_refl _) wf D _ (.deferred none) hDs hKF rfl rfl)
   refine ⟨by simp, .inl ⟨_, _, rfl, run_takeDeferred (w := wf) hKF, ?_⟩⟩
   refine ⟨.tuple #[.agg #[.int .i64 dev, .slice A' 15 c', .slice Av acc.length cv], (.int .i64 0)], by simp [results, Tryz.results15, go_sem, p0, p1, p2, p3], ?_⟩
   rw [retMrg_ok w HE.out HR.out]
   exact ⟨A', c', Av, cv, acc, by rw [seenOf_len], put_rd hRF hKF rfl, by rw [seenOf_len]; exact hcc.out, ⟨put_rd hOF hKF rfl, fun y hy => (hx.ok y (HM.out y (hM.out y hy))).below hbP⟩, rfl, hcb.out, hbP, hfA.out.lower (by omega), hfO.out.lower (by omega)⟩
  ·have HNZ := Lib.hid he
   have q1 : (E != 0) = true := by simpa using he
   have q2 : (E == 0) = false := by simpa using he
   clear he
   gi_wp2_with (refine ⟨trivial, ?_⟩; gi_at_call 28; refine wpListIn_hold ?_)
   unfold Hold
   refine (callsIn_wide.2 kC).mono ?_
   rintro e w8 ⟨rfl, hb8⟩
   have u8 := Up.of hb8
   have hG8 := hGb'.out.up u8
   have h48 := h4'.out.up u8
   have h58 := h5'.out.up u8
   have a0 : w8.cell? ⟨G, 0, none⟩ = some (.int .i64 dev) := by rw [hG8.cell]; rfl
   have a1 : w8.cell? ⟨G, 1, none⟩ = some (.slice A' 15 c') := by rw [hG8.cell]; rfl
   have a2 : w8.cell? ⟨G, 2, none⟩ = some (.slice Av acc.length cv) := by rw [hG8.cell]; rfl
   have b0 : w8.cell? ⟨w.heap.size + 1, 0, none⟩ = some (.int .i64 0) := by rw [h48.cell]; rfl
   have b1 : w8.cell? ⟨w.heap.size + 1, 1, none⟩ = some (.slice none 0 0) := by rw [h48.cell]; rfl
   have b2 : w8.cell? ⟨w.heap.size + 1, 2, none⟩ = some (.slice none 0 0) := by rw [h48.cell]; rfl
   have b3 : w8.cell? ⟨w.heap.size + 1 + 1, 0, none⟩ = some (.int .i64 0) := by rw [h58.cell]; rfl
   have f0 := h48.free 0
   have f1 := h48.free 1
   have f2 := h48.free 2
   have f3 := h58.free 0
   have hK8 : w8.heap[D]? = some (.deferred (some [])) := (hb8.block D (Array.getElem?_eq_some_iff.1 hK).1).trans hK
   have hK8 := Lib.hid hK8
   have U8 := Lib.hid u8
   have H48 := Lib.hid h48
   have H58 := Lib.hid h58
   clear kC u8 hG8 h48 h58 hb8 hK cG0 cG1 cG2
   gi_wp2
   have hKF : ((((w8.setCell ⟨w.heap.size + 1, 0, none⟩ (.int .i64 0)).setCell ⟨w.heap.size + 1, 1, none⟩ (.slice none 0 0)).setCell ⟨w.heap.size + 1, 2, none⟩ (.slice none 0 0)).setCell ⟨w.heap.size + 1 + 1, 0, none⟩ (.int .i64 E)).heap[D]? = some (.deferred (some [])) := ((((KeepsOthers.setCell w8 _ _).trans (KeepsOthers.setCell _ _ _)).trans (KeepsOthers.setCell _ _ _)).trans (KeepsOthers.setCell _ _ _)).same D _ hK8.out rfl
   have n45 : some (w.heap.size + 1) ≠ some (w.heap.size + 1 + 1) := by simp
   have n54 : some (w.heap.size + 1 + 1) ≠ some (w.heap.size + 1) := by simp
   have h4F : Blk ((((w8.setCell ⟨w.heap.size + 1, 0, none⟩ (.int .i64 0)).setCell ⟨w.heap.size + 1, 1, none⟩ (.slice none 0 0)).setCell ⟨w.heap.size + 1, 2, none⟩ (.slice none 0 0)).setCell ⟨w.heap.size + 1 + 1, 0, none⟩ (.int .i64 E)) (w.heap.size + 1) 27 #[.int .i64 0, .slice none 0 0, .slice none 0 0] := (((H48.out.set 0 _).set 1 _).set 2 _).kept (grown_set _ _ _ _) n45
   have h5F : Blk ((((w8.setCell ⟨w.heap.size + 1, 0, none⟩ (.int .i64 0)).setCell ⟨w.heap.size + 1, 1, none⟩ (.slice none 0 0)).setCell ⟨w.heap.size + 1, 2, none⟩ (.slice none 0 0)).setCell ⟨w.heap.size + 1 + 1, 0, none⟩ (.int .i64 E)) (w.heap.size + 1 + 1) 28 #[(.int .i64 E)] := (((H58.out.kept (grown_set _ _ _ _) n54).kept (grown_set _ _ _ _) n54).kept (grown_set _ _ _ _) n54).set 0 _
   have hbF : Below w.heap.size w ((((w8.setCell ⟨w.heap.size + 1, 0, none⟩ (.int .i64 0)).setCell ⟨w.heap.size + 1, 1, none⟩ (.slice none 0 0)).setCell ⟨w.heap.size + 1, 2, none⟩ (.slice none 0 0)).setCell ⟨w.heap.size + 1 + 1, 0, none⟩ (.int .i64 E)) := ((((stepB hB'.out U8.out.b).setCell (p := ⟨w.heap.size + 1, 0, none⟩) (by show w.heap.size ≤ w.heap.size + 1; omega) _).setCell (p := ⟨w.heap.size + 1, 1, none⟩) (by show w.heap.size ≤ w.heap.size + 1; omega) _).setCell (p := ⟨w.heap.size + 1, 2, none⟩) (by show w.heap.size ≤ w.heap.size + 1; omega) _).setCell (p := ⟨w.heap.size + 1 + 1, 0, none⟩) (by show w.heap.size ≤ w.heap.size + 1 + 1; omega) _
   have hDs : w.heap.size ≤ D := by omega
   generalize ((((w8.setCell ⟨w.heap.size + 1, 0, none⟩ (.int .i64 0)).setCell ⟨w.heap.size + 1, 1, none⟩ (.slice none 0 0)).setCell ⟨w.heap.size + 1, 2, none⟩ (.slice none 0 0)).setCell ⟨w.heap.size + 1 + 1, 0, none⟩ (.int .i64 E)) = wf at *
   have h4P := put_blk (o' := .deferred none) h4F hKF rfl
   have h5P := put_blk (o' := .deferred none) h5F hKF rfl
   have p0 : (wf.putObj D (.deferred none)).cell? ⟨w.heap.size + 1, 0, none⟩ = some (.int .i64 0) := by rw [h4P.cell]; rfl
   have p1 : (wf.putObj D (.deferred none)).cell? ⟨w.heap.size + 1, 1, none⟩ = some (.slice none 0 0) := by rw [h4P.cell]; rfl
   have p2 : (wf.putObj D (.deferred none)).cell? ⟨w.heap.size + 1, 2, none⟩ = some (.slice none 0 0) := by rw [h4P.cell]; rfl
   have p3 : (wf.putObj D (.deferred none)).cell? ⟨w.heap.size + 1 + 1, 0, none⟩ = some (.int .i64 E) := by rw [h5P.cell]; rfl
   have hbP : Below w.heap.size w (wf.putObj D (.deferred none)) := hbF.trans (belowK_b (w := w) (Nat.le_refl _) wf D _ (.deferred none) hDs hKF rfl rfl)
   refine ⟨by simp, .inl ⟨_, _, rfl, run_takeDeferred (w := wf) hKF, ?_⟩⟩
   refine ⟨.tuple #[.agg #[.int .i64 0, .slice none 0 0, .slice none 0 0], (.int .i64 E)], by simp [results, Tryz.results15, go_sem, p0, p1, p2, p3], ?_⟩
   rw [retMrg_err w HE.out HNZ.out]
   exact ⟨none, 0, none, 0, [], rfl, Rd.nil _ _, Nat.le_refl _, OpsRd.nil _ _, rfl, Nat.le_refl _, hbP, From.nil _ _, From.nil _ _⟩
end Go.Proofs.YtcomeidcmcegfaaGreatDoor
