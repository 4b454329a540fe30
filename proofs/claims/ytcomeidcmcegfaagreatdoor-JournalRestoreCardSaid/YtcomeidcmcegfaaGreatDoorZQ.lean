/-
  A map that a call has made, as a function from keys to elements: look-ups with and without 'ok' and stores as equations. Conditions: those of the library's laws on such maps (plain elements; a key type with its law).
  The keys of the two maps of layer 50's check: numbers, and stamps with a note and a field. Conditions: the numbers are ints.
  The walk of the checker's step of layer 50. Conditions: the two maps and the last stamp stand for the operations before; the table of the fields lies as its initialiser lays it.
  The walk of Check of layer 50. Conditions: the operations and the vector are readable; the tables lie as their initialisers lay them; the checker's step answers as 'OneSpec' says.
-/
import Derived.Maps.OwnSet
import Derived.Test.YtcomeidcmcegfaaGreatDoorBase
import Derived.DeepKeys4
import Derived.Test.YtcomeidcmcegfaaGreatDoorZO
import Derived.Test.YtcomeidcmcegfaaGreatDoorClockLess
import Derived.Test.YtcomeidcmcegfaaGreatDoorZN
namespace Go.Proofs.YtcomeidcmcegfaaGreatDoor
open Go.RowKit Go.Maps
set_option linter.unusedVariables false
theorem plainElem_inj {P : Program} {e : TypeId} {u v : Value} {x y : DataW Unit × List MemPlace} (hu : plainElem P e u = some x) (hv : plainElem P e v = some y) (h : x.1 = y.1) : u = v := by
 unfold plainElem at hu hv
 rcases hd : P.underlying e with _ | d
 ·rw [hd] at hu; simp at hu
 ·rw [hd] at hu hv
  cases d <;> cases u <;> simp at hu <;> cases v <;> simp at hv
  ·subst hu hv; simpa using h
  ·obtain ⟨⟨rfl, -⟩, rfl⟩ := hu
   obtain ⟨⟨rfl, -⟩, rfl⟩ := hv
   simpa using h
  ·obtain ⟨-, rfl⟩ := hu
   obtain ⟨-, rfl⟩ := hv
   rename_i s t
   obtain ⟨s⟩ := s
   obtain ⟨t⟩ := t
   have : s.toList = t.toList := by simpa using h
   rw [Array.toList_inj] at this
   rw [this]
open Classical in
noncomputable def upd (f : Value → Option Value) (key val : Value) : Value → Option Value := fun x => if x = key then some val else f x
theorem upd_same (f : Value → Option Value) (key val : Value) : upd f key val key = some val := by unfold upd; rw [if_pos rfl]
theorem upd_other (f : Value → Option Value) {key val x : Value} (h : x ≠ key) : upd f key val x = f x := by unfold upd; rw [if_neg h]
def MapF (P : Program) (k e : TypeId) (w : World) (B n : Nat) (f : Value → Option Value) : Prop :=
 ∃ D : DataW Unit, w.ownsMap P k (plainElem P e) B n D ∧ ∀ key kl, keyOf P k key = some kl → Maps.has D kl = (f key).isSome ∧ ∀ v, f key = some v → ∃ x, plainElem (H := Unit) P e v = some x ∧ ∀ z, D.atKey kl z = x.1
section
variable {P : Program} {k e : TypeId} {w : World} {B n : Nat} {f : Value → Option Value}
theorem MapF.made (P : Program) (k e : TypeId) (w : World) : MapF P k e (w.alloc (.map #[] 0)) w.heap.size 0 (fun _ => none) :=
 ⟨.map [], World.ownsMap_made _ _ _ _, fun key kl _ => ⟨rfl, fun v h => by cases h⟩⟩
theorem MapF.lt (h : MapF P k e w B n f) : B < w.heap.size := by obtain ⟨D, h, -⟩ := h; exact h.lt
theorem MapF.mono (h : MapF P k e w B n f) {n' : Nat} (hn : n ≤ n') : MapF P k e w B n' f := by obtain ⟨D, h, g⟩ := h; exact ⟨D, h.mono hn, g⟩
theorem MapF.kept {w' : World} {row : Option Nat} (h : MapF P k e w B n f) (hg : w.grownBy w' row) (hne : some B ≠ row) : MapF P k e w' B n f := by obtain ⟨D, h, g⟩ := h; exact ⟨D, h.kept hg hne, g⟩
theorem MapF.alloc (h : MapF P k e w B n f) (o : Obj) : MapF P k e (w.alloc o) B n f := h.kept (World.grownBy_alloc w o none) (by simp)
theorem MapF.drew (h : MapF P k e w B n f) : MapF P k e w.drew B n f := h
theorem MapF.block {w' : World} (h : MapF P k e w B n f) (hb : w'.heap[B]? = w.heap[B]?) : MapF P k e w' B n f := by
 obtain ⟨D, ⟨es, clock, h1, h2⟩, g⟩ := h
 exact ⟨D, ⟨es, clock, hb.trans h1, h2⟩, g⟩
theorem MapF.below {w' : World} {a : Nat} (h : MapF P k e w B n f) (hb : Below a w w') (ha : B < a) : MapF P k e w' B n f := h.block (hb.block B ha)
theorem MapF.look (h : MapF P k e w B n f) (K : Keyed P k) {t : TypeId} (ht : P.underlying t = some (.map k e)) {z : Value} (hz : (zeroValue e).run P w = .ok z w) {x : DataW Unit × List MemPlace} (hx : plainElem P e z = some x)
 {key : Value} {kl : Lit} (hkey : keyOf P k key = some kl) : (Instr.lookup t (.map (some B)) key false).run P w = .ok ((f key).getD z) w := by
 obtain ⟨D, h, g⟩ := h
 obtain ⟨x1, x2⟩ := x
 obtain ⟨v, ps, hrun, hv⟩ := h.lookup K ht hz hx hkey
 obtain ⟨g1, g2⟩ := g key kl hkey
 rw [hrun]
 rcases hf : f key with _ | u
 ·rw [hf] at g1
  rw [atKey_of_not_has g1] at hv
  rw [plainElem_inj hv hx rfl]; rfl
 ·obtain ⟨y, hy, hz'⟩ := g2 u hf
  rw [hz'] at hv
  rw [plainElem_inj hv hy rfl]; rfl
theorem MapF.look_ok (h : MapF P k e w B n f) (K : Keyed P k) {t : TypeId} (ht : P.underlying t = some (.map k e)) {z : Value} (hz : (zeroValue e).run P w = .ok z w) {x : DataW Unit × List MemPlace} (hx : plainElem P e z = some x)
 {key : Value} {kl : Lit} (hkey : keyOf P k key = some kl) : (Instr.lookup t (.map (some B)) key true).run P w = .ok (.tuple #[(f key).getD z, .bool (f key).isSome]) w := by
 obtain ⟨D, h, g⟩ := h
 obtain ⟨x1, x2⟩ := x
 obtain ⟨v, ps, hrun, hv⟩ := h.look_ok K ht hz hx hkey
 obtain ⟨g1, g2⟩ := g key kl hkey
 rw [hrun, g1]
 rcases hf : f key with _ | u
 ·rw [hf] at g1
  rw [atKey_of_not_has g1] at hv
  rw [plainElem_inj hv hx rfl]; rfl
 ·obtain ⟨y, hy, hz'⟩ := g2 u hf
  rw [hz'] at hv
  rw [plainElem_inj hv hy rfl]; rfl
theorem MapF.store (h : MapF P k e w B n f) (K : Keyed P k) {t : TypeId} (ht : P.underlying t = some (.map k e)) (hn : n < maxLen) {key val : Value} {kl : Lit} (hkey : keyOf P k key = some kl) {x : DataW Unit × List MemPlace} (hx : plainElem P e val = some x) :
 ∃ w', (Instr.mapUpdate t (.map (some B)) key val).run P w = .ok () w' ∧ MapF P k e w' B (n + 1) (upd f key val) ∧ w.grownBy w' (some B) := by
 obtain ⟨D, h, g⟩ := h
 obtain ⟨x1, x2⟩ := x
 have hm := h.isMap
 obtain ⟨w', hrun, hown, hg⟩ := h.update K ht hn hkey hx
 refine ⟨w', hrun, ⟨_, hown, fun key' kl' hkey' => ?_⟩, hg⟩
 by_cases e : key' = key
 ·subst e
  obtain rfl : kl = kl' := Option.some.inj (hkey.symm.trans hkey')
  rw [upd_same, has_put_same hm (K.key hkey)]
  exact ⟨rfl, fun v hv => by cases hv; exact ⟨_, hx, fun z => atKey_put_same hm (K.key hkey) _ _⟩⟩
 ·have hne : kl' ≠ kl := fun e' => e (K.inj (e' ▸ hkey') hkey)
  rw [upd_other f e, has_put_other hne]
  obtain ⟨g1, g2⟩ := g key' kl' hkey'
  refine ⟨g1, fun v hv => ?_⟩
  obtain ⟨y, hy, hz⟩ := g2 v hv
  exact ⟨y, hy, fun z => by rw [atKey_put_other hne]; exact hz z⟩
end
end Go.Proofs.YtcomeidcmcegfaaGreatDoor
namespace Go.Proofs.YtcomeidcmcegfaaGreatDoor
open Go.RowKit Go.Maps Go.WideMaps
set_option linter.unusedVariables false
set_option linter.unusedSimpArgs false
theorem wf64 {n : Int} (h : I64b n) : (Lit.int .i64 n).wf = true := by
 obtain ⟨h1, h2⟩ := h
 unfold Lit.wf
 rw [Bool.and_eq_true, decide_eq_true_eq, decide_eq_true_eq]
 exact ⟨h1, h2⟩
theorem keyI {n : Int} (h : I64b n) : ∃ kl, keyOf Tryz.prog 3 (.int .i64 n) = some kl := ⟨_, keyOf_int_mk Tryz.underlying3 (wf64 h)⟩
def wrV (c d n f : Int) : Value := .agg #[.int .i64 c, .int .i64 d, .int .i64 n, .int .i64 f]
theorem wrV_inj {c d n f c' d' n' f' : Int} (h : wrV c d n f = wrV c' d' n' f') : c = c' ∧ d = d' ∧ n = n' ∧ f = f' := by
 unfold wrV at h
 simp at h
 exact h
theorem keyW {c d n f : Int} (hc : I64b c) (hd : I64b d) (hn : I64b n) (hf : I64b f) : ∃ kl, keyOf Tryz.prog 113 (wrV c d n f) = some kl := by
 have hkt : Tryz.prog.keyType 113 = true := by kernel_rfl
 have s4 : Tryz.prog.cellsOf 113 = 4 := by kernel_rfl
 have s2 : Tryz.prog.cellsOf 36 = 2 := by kernel_rfl
 have s1 : Tryz.prog.cellsOf 3 = 1 := by kernel_rfl
 obtain ⟨m, hm⟩ : ∃ m, Tryz.prog.types.size = m + 3 := ⟨Tryz.prog.types.size - 3, (Nat.sub_add_cancel (of_decide_eq_true (by kernel_rfl))).symm⟩
 refine ⟨.string (keyBytes [.int .i64 c, .int .i64 d, .int .i64 n, .int .i64 f]), ?_⟩
 unfold keyOf
 simp only [Tryz.underlying113]
 rw [if_pos (by simp [hkt, Value.formed, Tryz.underlying113, s4, wrV]), hm]
 simp [Program.keyLits, Tryz.underlying113, Tryz.underlying36, Tryz.underlying3, s4, s2, s1, wrV, Value.cells, wf64 hc, wf64 hd, wf64 hn, wf64 hf]
 rw [if_pos (by decide)]
 rfl
theorem laidOutR : laidOutB Tryz.prog = true := by kernel_rfl
theorem keyedW : Keyed Tryz.prog 113 := Keyed.of_law (deep_law_laid laidOutR (m := 9) (by omega) (of_decide_eq_true (by kernel_rfl)) (by kernel_rfl) (by rw [Tryz.underlying113]))
theorem keyedI : Keyed Tryz.prog 3 := int_keyed Tryz.underlying3
end Go.Proofs.YtcomeidcmcegfaaGreatDoor
namespace Go.Proofs.YtcomeidcmcegfaaGreatDoor
open Go.RowKit Go.Maps
set_option linter.unusedVariables false
set_option linter.unusedSimpArgs false
theorem wp_mapUpdate_F {P : Program} {w : World} {o : Oper} {a : Act} {K : Act → World → Prop} {Q : Exit → Act → World → Prop}
 (m x v : Operand) (t : TypeId) (hop : o.op = Op.mapUpdate t m x v) (k e : TypeId) (K0 : Keyed P k) (ht : P.underlying t = some (.map k e)) (B n : Nat) (f : Value → Option Value)
 (hm : a.eval m = .map (some B)) (hown : MapF P k e w B n f) (hn : n < maxLen) (key val : Value) (kl : Lit) (hx : a.eval x = key) (hv : a.eval v = val) (hkey : keyOf P k key = some kl) (y : DataW Unit × List MemPlace) (hval : plainElem P e val = some y)
 (hK : ∀ w', MapF P k e w' B (n + 1) (upd f key val) → w.grownBy w' (some B) → K (a.put o.dst undef) w') : Oper.wp P o a w K Q := by
 obtain ⟨w', hrun, r1, r2⟩ := hown.store K0 ht hn hkey hval
 unfold Oper.wp
 simp [execOp, hop, hm, hx, hv, hrun, Result.andThen]
 exact hK w' r1 r2
structure TabR (w : World) : Prop where
 f0 : w.cell? ⟨0, 0, none⟩ = some (.int .i64 0)
 f1 : w.cell? ⟨0, 1, none⟩ = some (.int .i64 1)
 f2 : w.cell? ⟨0, 2, none⟩ = some (.int .i64 2)
theorem TabR.below {w w' : World} (h : TabR w) (hb : Below w.heap.size w w') : TabR w' := ⟨(Up.of hb).cell h.f0, (Up.of hb).cell h.f1, (Up.of hb).cell h.f2⟩
theorem TabR.kept {w w' : World} {r : Nat} (h : TabR w) (g : w.grownBy w' (some r)) (hr : (0 : Nat) ≠ r) : TabR w' := by
 have key : ∀ {i : Nat} {u : Value}, w.cell? ⟨0, i, none⟩ = some u → w'.cell? ⟨0, i, none⟩ = some u := by
  intro i u hc
  have hl : (0 : Nat) < w.heap.size := by
   rcases Nat.lt_or_ge 0 w.heap.size with hlt | hge
   ·exact hlt
   ·simp [World.cell?, Array.getElem?_eq_none hge] at hc
  have := g.block _ hl (by simpa using hr)
  unfold World.cell? at hc ⊢
  simp only [this]; exact hc
 exact ⟨key h.f0, key h.f1, key h.f2⟩
structure Kp3 (G Ma Mw : Nat) (w w' : World) : Prop where
 os : w'.os = w.os
 tape : w'.tape = w.tape
 output : w'.output = w.output
 size : w.heap.size ≤ w'.heap.size
 block : ∀ k, k < w.heap.size → k ≠ G → k ≠ Ma → k ≠ Mw → w'.heap[k]? = w.heap[k]?
section
variable {G Ma Mw : Nat} {w w' w'' : World}
theorem Kp3.trans (h : Kp3 G Ma Mw w w') (k : Kp3 G Ma Mw w' w'') : Kp3 G Ma Mw w w'' :=
 ⟨k.os.trans h.os, k.tape.trans h.tape, k.output.trans h.output, Nat.le_trans h.size k.size, fun i hi a b c => (k.block i (Nat.lt_of_lt_of_le hi h.size) a b c).trans (h.block i hi a b c)⟩
theorem Kp3.of (hb : Below w.heap.size w w') : Kp3 G Ma Mw w w' := ⟨hb.os, hb.tape, hb.output, hb.size, fun k hk _ _ _ => hb.block k hk⟩
theorem Kp3.grown {r : Nat} (hg : w.grownBy w' (some r)) (hr : r = G ∨ r = Ma ∨ r = Mw) : Kp3 G Ma Mw w w' :=
 ⟨hg.os, hg.tape, hg.output, hg.size, fun k hk a b c => hg.block k hk (by intro e; cases e; rcases hr with h | h | h <;> contradiction)⟩
end
theorem Kp3.weak {G Ma Mw : Nat} {w w' : World} (h : Kp3 Mw Mw Mw w w') : Kp3 G Ma Mw w w' := ⟨h.os, h.tape, h.output, h.size, fun k hk _ _ c => h.block k hk c c c⟩
theorem Blk.kp {G Ma Mw : Nat} {w w' : World} {g : Nat} {t : TypeId} {cs : Array Value} (h : Blk w g t cs) (k : Kp3 G Ma Mw w w') (a : g ≠ G) (b : g ≠ Ma) (c : g ≠ Mw) : Blk w' g t cs := (k.block g h.lt a b c).trans h
theorem idx3 (j : Nat) (hj : j < 3) : ∀ w' : World, (Instr.index 111 (.agg #[.int .i64 0, .int .i64 1, .int .i64 2]) (.int .i64 (j : Int))).run Tryz.prog w' = .ok (.int .i64 (j : Int)) w' := by
 have : j = 0 ∨ j = 1 ∨ j = 2 := by omega
 rcases this with rfl | rfl | rfl <;> intro w' <;> kernel_rfl
structure ChkSt (w : World) (G Ma Mw na nw : Nat) (pre : List OP) : Prop where
 g : Blk w G 84 #[.map (some Ma), .map (some Mw), .int .i64 (lastS pre).1, .int .i64 (lastS pre).2]
 ga : G ≠ Ma
 gw : G ≠ Mw
 aw : Ma ≠ Mw
 a : ∃ f, MapF Tryz.prog 3 3 w Ma na f ∧ ∀ id : Int, f (.int .i64 id) = (lastAdd pre id).map fun p => .int .i64 p.rc
 w : ∃ f, MapF Tryz.prog 113 4 w Mw nw f ∧ ∀ c d n q : Int, f (wrV c d n q) = if wsB pre (c, d) n q = true then some (.bool true) else none
def wsJ (pre : List OP) (o : OP) (j : Nat) (c d n q : Int) : Bool := wsB pre (c, d) n q || ((o.ac == c && (o.ad == d && wrsB o n q)) && decide (q < j))
theorem wrs_id {o : OP} {n q : Int} (h : wrsB o n q = true) : n = o.id := by
 unfold wrsB at h; rw [Bool.and_eq_true, beq_iff_eq] at h; exact h.1.symm
theorem wrs_in {o : OP} {n q : Int} (h : wrsB o n q = true) : 0 ≤ q ∧ q ≤ 2 := by
 unfold wrsB wrB at h
 rw [Bool.and_eq_true, Bool.and_eq_true, ← fldB_in, decide_eq_true_eq] at h; exact h.2.1
theorem plainElem_int {P : Program} {e : TypeId} {n : Int} (hu : P.underlying e = some (.int .i64)) (hw : (Lit.int .i64 n).wf = true) : plainElem (H := Unit) P e (.int .i64 n) = some (.lit (.int .i64 n), []) := by
 unfold plainElem; rw [hu]; simp [hw]
theorem plainElem_bool {P : Program} {e : TypeId} {b : Bool} (hu : P.underlying e = some .bool) : plainElem (H := Unit) P e (.bool b) = some (.lit (.bool b), []) := by
 unfold plainElem; rw [hu]
theorem wsJ_zero (pre : List OP) (o : OP) (c d n q : Int) : wsJ pre o 0 c d n q = wsB pre (c, d) n q := by
 unfold wsJ
 rcases h : (o.ac == c && (o.ad == d && wrsB o n q)) with _ | _
 ·simp
 ·have := wrs_in (o := o) (n := n) (q := q) (by simp only [Bool.and_eq_true] at h; exact h.2.2)
  simp; omega
theorem wsJ_three (pre : List OP) (o : OP) (c d n q : Int) : wsJ pre o 3 c d n q = wsB (pre ++ [o]) (c, d) n q := by
 rw [wsB_snoc]
 unfold wsJ
 rcases h : (o.ac == c && (o.ad == d && wrsB o n q)) with _ | _
 ·simp
 ·have := wrs_in (o := o) (n := n) (q := q) (by simp only [Bool.and_eq_true] at h; exact h.2.2)
  simp; omega
theorem wsJ_skip {pre : List OP} {o : OP} {j : Nat} (h : wrsB o o.id j = false) (c d n q : Int) : wsJ pre o (j + 1) c d n q = wsJ pre o j c d n q := by
 unfold wsJ
 rcases hx : (o.ac == c && (o.ad == d && wrsB o n q)) with _ | _
 ·simp
 ·simp only [Bool.and_eq_true] at hx
  have e := wrs_id hx.2.2
  have : q ≠ j := by rintro rfl; rw [e, h] at hx; exact absurd hx.2.2 (by decide)
  congr 2
  rw [decide_eq_decide]; omega
theorem wsJ_step {pre : List OP} {o : OP} {j : Nat} (h : wrsB o o.id j = true) {f : Value → Option Value} (hf : ∀ c d n q : Int, f (wrV c d n q) = if wsJ pre o j c d n q = true then some (.bool true) else none) (c d n q : Int) :
 upd f (wrV o.ac o.ad o.id j) (.bool true) (wrV c d n q) = if wsJ pre o (j + 1) c d n q = true then some (.bool true) else none := by
 by_cases e : wrV c d n q = wrV o.ac o.ad o.id j
 ·obtain ⟨rfl, rfl, rfl, rfl⟩ := wrV_inj e
  rw [upd_same, if_pos]
  unfold wsJ
  rw [h]; simp
  right; omega
 ·rw [upd_other f e, hf]
  have : wsJ pre o (j + 1) c d n q = wsJ pre o j c d n q := by
   unfold wsJ
   rcases hx : (o.ac == c && (o.ad == d && wrsB o n q)) with _ | _
   ·simp
   ·simp only [Bool.and_eq_true, beq_iff_eq] at hx
    have e1 := wrs_id hx.2.2
    have : q ≠ j := by rintro rfl; exact e (by rw [e1, hx.1, hx.2.1])
    congr 2
    rw [decide_eq_decide]; omega
  rw [this]
def OneRel (W0 : World) (G Ma Mw nw B : Nat) (pre : List OP) (o : OP) (cs : Array Value) (vi : Value) (wr : World) : Prop :=
 ∃ j : Nat, j ≤ 3 ∧ vi = .int .i64 j ∧ Blk wr B 43 cs ∧ Kp3 Mw Mw Mw W0 wr ∧ ∃ f, MapF Tryz.prog 113 4 wr Mw (nw + j) f ∧ Hid (∀ c d n q : Int, f (wrV c d n q) = if wsJ pre o j c d n q = true then some (.bool true) else none)
set_option maxRecDepth 100000 in
set_option maxHeartbeats 8000000 in
theorem one_add (w : World) (G Ma Mw na nw : Nat) (pre : List OP) (o : OP) (Ao : Option Addr) (co : Nat) (hst : ChkSt w G Ma Mw na nw pre) (bd : o.Bd) (hT : Tabs w) (hF : TabR w) (h0 : checkE o = 0) (hk : o.kd = 0) (hv : o.ov = [])
 (hless : lessB (lastS pre).1 (lastS pre).2 o.ac o.ad = true) (hn : na + 1 < maxLen) (hm : nw + 3 < maxLen) :
 Calls Tryz.prog 49 #[.pointer (some ⟨G, 0, none⟩), opV o Ao co] w fun e w' => e = .returned (.int .i64 0) ∧ ChkSt w' G Ma Mw (na + 1) (nw + 3) (pre ++ [o]) ∧ Kp3 G Ma Mw w w' := by
 unfold maxLen at hn hm
 have hst0 := Lib.hid hst
 obtain ⟨hg, ga, gw, aw, ⟨fA, hMA, hfA⟩, fW, hMW, hfW⟩ := hst
 have HfA := Lib.hid hfA
 have HfW := Lib.hid hfW
 clear hfA hfW
 generalize lastS pre = L at *
 obtain ⟨lc, ld⟩ := L
 dsimp only at hg hless
 have hB := Blk.new w 43 (opC o Ao co).toArray
 have hu0 := Up.of ((Below.refl w.heap.size w).alloc (Nat.le_refl _) (.cells (opC o Ao co).toArray 43))
 have kC := check_any (w.alloc (.cells (opC o Ao co).toArray 43)) o Ao co bd (by rw [hv]; exact Rd.nil _ _) (by rw [hv]; exact Nat.zero_le _) (hT.below hu0.b)
 have hg0 := hg.up hu0
 have hA0 := hMA.below hu0.b hMA.lt
 have hW0 := hMW.below hu0.b hMW.lt
 have hF0 := hF.below hu0.b
 have kW := fun (w' : World) (f : Int) => oWrites_any w' o Ao co o.id f
 have hj := Lib.hid (fun j => @wsJ_skip pre o j)
 have hs := Lib.hid (fun j h f hf => @wsJ_step pre o j h f hf)
 have h3 := Lib.hid (wsJ_three pre o)
 have hz := Lib.hid (wsJ_zero pre o)
 have hBd := Lib.hid bd
 rw [h0] at kC
 unfold opV opC at kC kW ⊢
 unfold opC at hB hg0 hA0 hW0 hF0 hu0
 rw [hk, hv] at kC kW hB hg0 hA0 hW0 hF0 hu0 ⊢
 dsimp only [List.length_nil] at kC kW hB hg0 hA0 hW0 hF0 hu0 ⊢
 have HU0 := Lib.hid hu0
 clear hu0 hF hT hMA hMW hg
 generalize hwa : w.alloc (.cells (#[.int .i64 o.ac, .int .i64 o.ad, .int .i64 0, .int .i64 o.rc, .int .i64 o.id, .int .i64 o.ti, .int .i64 o.pa, .int .i64 o.sf, .int .i64 o.st, .int .i64 o.rk, .string ⟨o.nt.toArray⟩, .int .i64 o.se, .int .i64 o.nn, .string ⟨o.tx.toArray⟩, .slice Ao 0 co]) 43) = wa at *
 have HWA := Lib.hid hwa
 clear hwa
 go_enter Tryz.func49, Tryz.ntmps49
 go_wp2_with fail
 rw [HWA.out]
 refine kC.mono ?_
 rintro e w1 ⟨rfl, hb1⟩
 have hu1 := Up.of hb1
 have hB1 := hB.up hu1
 have hg1 := hg0.up hu1
 have hA1 := hA0.below hb1 hA0.lt
 have hW1 := hW0.below hb1 hW0.lt
 have hF1 := hF0.below hb1
 have HU1 := Lib.hid hu1
 clear kC hu1 hB hg0 hA0 hW0 hF0 hb1
 have sg2 : ∀ w', Up w1 w' → w'.cell? ⟨G, 2, none⟩ = some (.int .i64 lc) := fun w' u => by rw [(hg1.up u).cell]; rfl
 have sg3 : ∀ w', Up w1 w' → w'.cell? ⟨G, 3, none⟩ = some (.int .i64 ld) := fun w' u => by rw [(hg1.up u).cell]; rfl
 have kL := fun w' => less_any w' lc ld o.ac o.ad
 rw [hless] at kL
 have so0 : ∀ w', Up w1 w' → w'.cell? ⟨w.heap.size, 0, none⟩ = some (.int .i64 o.ac) := fun w' u => by rw [(hB1.up u).cell]; rfl
 have so1 : ∀ w', Up w1 w' → w'.cell? ⟨w.heap.size, 1, none⟩ = some (.int .i64 o.ad) := fun w' u => by rw [(hB1.up u).cell]; rfl
 go_wp2_with fail
 refine wp_region_noPanic ?_
 refine wp_region_held_drew (S := fun w' => Up w1 w') (by kernel_rfl) (Up.drew w1) (fun hHeld => ?_)
 refine tk 0 20 (v := ?_) ?_ ?_
 rotate_left
 ·intro w' hSw; clear hSw; go_simp; try (with_reducible rfl)
 try simp only [tkA, tkB, tkC]
 refine tk 1 21 (v := ?_) ?_ ?_
 rotate_left
 ·intro w' hSw; clear hSw; go_simp; try (with_reducible rfl)
 try simp only [tkA, tkB, tkC]
 refine tk 2 22 (v := ?_) ?_ ?_
 rotate_left
 ·intro w' hSw; clear hSw; go_simp; try (with_reducible rfl)
 try simp only [tkA, tkB, tkC]
 refine tk 3 23 (v := ?_) ?_ ?_
 rotate_left
 ·intro w' hS0; go_simp; try (with_reducible rfl)
 try simp only [tkA, tkB, tkC]
 refine tk 4 24 (v := ?_) ?_ ?_
 rotate_left
 ·intro w' hSw; clear hSw; go_simp; try (with_reducible rfl)
 try simp only [tkA, tkB, tkC]
 refine tk 5 25 (v := ?_) ?_ ?_
 rotate_left
 ·intro w' hS0; go_simp; try (with_reducible rfl)
 try simp only [tkA, tkB, tkC]
 refine wpAnyH_ready (rs := [6]) (by kernel_rfl) (by simp) ?_
 refine AllReadyH.cons rfl (fun K hK => ?_) AllReadyH.nil
 go_simp
 go_at_call 46
 refine (kL _).mono ?_
 rintro e w2 ⟨rfl, hb2⟩
 have hu2 := (Up.drew _).trans (Up.of hb2)
 refine hK.out _ _ hu2 (fun hHeld => ?_)
 clear hK K hHeld
 refine wpAnyH_more (S' := fun w' => Up w2 w') (fun w' h => Up.trans hu2 h) _ _ _ _ ?_
 have hHeld := Up.refl w2
 refine tk 7 27 (v := ?_) ?_ ?_
 rotate_left
 ·intro w' hSw; clear hSw; go_simp; try (with_reducible rfl)
 try simp only [tkA, tkB, tkC]
 refine wpAnyH_done (by kernel_rfl) ?_ _
 refine NoPanic.normal ?_
 clear hHeld
 have hB2 := hB1.up hu2
 have hg2 := hg1.up hu2
 have hA2 := hA1.below hu2.b hA1.lt
 have hW2 := hW1.below hu2.b hW1.lt
 have hF2 := hF1.below hu2.b
 have HU2 := Lib.hid hu2
 clear sg2 sg3 so0 so1 hB1 hg1 hA1 hW1 hF1 hu2 hb2 kL
 have co2 : w2.cell? ⟨w.heap.size, 2, none⟩ = some (.int .i64 0) := by rw [hB2.cell]; rfl
 have co14 : w2.cell? ⟨w.heap.size, 14, none⟩ = some (.slice Ao 0 co) := by rw [hB2.cell]; rfl
 have co0 : w2.cell? ⟨w.heap.size, 0, none⟩ = some (.int .i64 o.ac) := by rw [hB2.cell]; rfl
 have co1 : w2.cell? ⟨w.heap.size, 1, none⟩ = some (.int .i64 o.ad) := by rw [hB2.cell]; rfl
 have cg2 : w2.cell? ⟨G, 2, none⟩ = some (.int .i64 lc) := by rw [hg2.cell]; rfl
 have cg3 : w2.cell? ⟨G, 3, none⟩ = some (.int .i64 ld) := by rw [hg2.cell]; rfl
 have fg2 := hg2.free 2
 have fg3 := hg2.free 3
 go_wp2_with fail
 go_loopw [53] (fun (vi : Value) (wr : World) => vi = .int .i64 0 ∧ wr = w2) (fun _ _ => 0)
 case atStart => exact ⟨rfl, rfl⟩
 case round =>
  obtain ⟨rfl, rfl⟩ := hrel
  have gG : wr.grownBy ((wr.setCell ⟨G, 2, none⟩ (.int .i64 o.ac)).setCell ⟨G, 3, none⟩ (.int .i64 o.ad)) (some G) := (grown_set wr G 2 _).trans (grown_set _ G 3 _)
  have nB : some w.heap.size ≠ some G := by
   intro e
   have e := Option.some.inj e
   have h1 := hB2
   rw [e] at h1
   have := h1.symm.trans hg2
   simp at this
  have nF : (0 : Nat) ≠ G := by
   intro e
   have h1 := hF2.f0
   have h2 := hg2.cell 0
   rw [← e] at h2
   rw [h2] at h1
   simp at h1
  have hg3 : Blk ((wr.setCell ⟨G, 2, none⟩ (.int .i64 o.ac)).setCell ⟨G, 3, none⟩ (.int .i64 o.ad)) G 84 #[.map (some Ma), .map (some Mw), .int .i64 o.ac, .int .i64 o.ad] := (hg2.set 2 _).set 3 _
  have hB3 := hB2.kept gG nB
  have hA3 := hA2.kept gG (by simpa using ga.symm)
  have hW3 := hW2.kept gG (by simpa using gw.symm)
  have hF3 := hF2.kept gG (by simpa using nF)
  have co2' : ((wr.setCell ⟨G, 2, none⟩ (.int .i64 o.ac)).setCell ⟨G, 3, none⟩ (.int .i64 o.ad)).cell? ⟨w.heap.size, 2, none⟩ = some (.int .i64 0) := by rw [hB3.cell]; rfl
  have GG := Lib.hid gG
  clear gG hg3 hB3 hA3 hW3 hF3
  go_wp2_with fail
  have hg3 : Blk ((wr.setCell ⟨G, 2, none⟩ (.int .i64 o.ac)).setCell ⟨G, 3, none⟩ (.int .i64 o.ad)) G 84 #[.map (some Ma), .map (some Mw), .int .i64 o.ac, .int .i64 o.ad] := (hg2.set 2 _).set 3 _
  have hB3 := hB2.kept GG.out nB
  have hA3 := hA2.kept GG.out (by simpa using ga.symm)
  have hW3 := hW2.kept GG.out (by simpa using gw.symm)
  have hF3 := hF2.kept GG.out (by simpa using nF)
  clear co2 co14 co0 co1 cg2 cg3 fg2 fg3 hB2 hg2 hA2 hW2 hF2 co2'
  have HU3 := Lib.hid (Kp3.grown (Ma := Ma) (Mw := Mw) GG.out (.inl rfl))
  clear GG
  generalize ((wr.setCell ⟨G, 2, none⟩ (.int .i64 o.ac)).setCell ⟨G, 3, none⟩ (.int .i64 o.ad)) = w3 at *
  have hMA := hA3
  have sG0 : ∀ w', w3.grownBy w' (some Ma) → w'.cell? ⟨G, 0, none⟩ = some (.map (some Ma)) := fun w' g => by rw [(hg3.kept g (by simpa using ga)).cell]; rfl
  have nBA : some w.heap.size ≠ some Ma := by
   intro e
   have e := Option.some.inj e
   obtain ⟨D, ⟨es, ck, h1, -⟩, -⟩ := hA3
   rw [← e] at h1
   have := h1.symm.trans hB3
   simp at this
  have sB : ∀ w', w3.grownBy w' (some Ma) → Blk w' w.heap.size 43 _ := fun w' g => hB3.kept g nBA
  have sB2 : ∀ w', w3.grownBy w' (some Ma) → w'.cell? ⟨w.heap.size, 4, none⟩ = some (.int .i64 o.id) := fun w' g => by rw [(sB w' g).cell]; rfl
  have sB3 : ∀ w', w3.grownBy w' (some Ma) → w'.cell? ⟨w.heap.size, 3, none⟩ = some (.int .i64 o.rc) := fun w' g => by rw [(sB w' g).cell]; rfl
  have sB := Lib.hid sB
  obtain ⟨kA, hkA⟩ := keyI (n := o.id) bd.id
  have hvA : plainElem (H := Unit) Tryz.prog 3 (.int .i64 o.rc) = some (.lit (.int .i64 o.rc), []) := plainElem_int Tryz.underlying3 (wf64 bd.rc)
  refine wp_region_noPanic ?_
  refine wp_region_held_drew (S := fun w' => w3.grownBy w' (some Ma)) (by kernel_rfl) (grown_drewN w3 1 _) (fun hHeld => ?_)
  refine tk 0 98 (v := ?_) ?_ ?_
  rotate_left
  ·intro w' hSw; clear hSw; go_simp; try (with_reducible rfl)
  try simp only [tkA, tkB, tkC]
  refine tk 1 99 (v := ?_) ?_ ?_
  rotate_left
  ·intro w' hSw; clear hSw; go_simp; try (with_reducible rfl)
  try simp only [tkA, tkB, tkC]
  refine tk 2 100 (v := ?_) ?_ ?_
  rotate_left
  ·intro w' hSw; clear hSw; go_simp; try (with_reducible rfl)
  try simp only [tkA, tkB, tkC]
  refine tk 3 101 (v := ?_) ?_ ?_
  rotate_left
  ·intro w' hS0; go_simp; try (with_reducible rfl)
  try simp only [tkA, tkB, tkC]
  refine tk 4 102 (v := ?_) ?_ ?_
  rotate_left
  ·intro w' hSw; clear hSw; go_simp; try (with_reducible rfl)
  try simp only [tkA, tkB, tkC]
  refine tk 5 103 (v := ?_) ?_ ?_
  rotate_left
  ·intro w' hSw; clear hSw; go_simp; try (with_reducible rfl)
  try simp only [tkA, tkB, tkC]
  refine tk 6 104 (v := ?_) ?_ ?_
  rotate_left
  ·intro w' hS0; go_simp; try (with_reducible rfl)
  try simp only [tkA, tkB, tkC]
  refine tk 7 105 (v := ?_) ?_ ?_
  rotate_left
  ·intro w' hSw; clear hSw; go_simp; try (with_reducible rfl)
  try simp only [tkA, tkB, tkC]
  refine tk 8 106 (v := ?_) ?_ ?_
  rotate_left
  ·intro w' hS0; go_simp; try (with_reducible rfl)
  try simp only [tkA, tkB, tkC]
  refine wpAnyH_ready (rs := [9]) (by kernel_rfl) (by simp) ?_
  refine AllReadyH.cons rfl (fun K hK => ?_) AllReadyH.nil
  refine wp_mapUpdate_F _ _ _ 81 rfl 3 3 keyedI Tryz.underlying81 Ma na fA (by go_simp; first | done | rfl) (hMA.drew) (by unfold maxLen; omega) (.int .i64 o.id) (.int .i64 o.rc) _ (by go_simp; first | done | rfl) (by go_simp; first | done | rfl) hkA _ hvA ?_
  intro W hMA' gW
  have gWW := hHeld.trans gW
  refine hK.out _ _ (hHeld.trans gW) (fun hHeld => ?_)
  clear hK K
  try simp only [Act.put, tkA, tkB, tkC]
  refine wpAnyH_done (by kernel_rfl) ?_ _
  refine NoPanic.normal ?_
  clear hHeld
  have nFA : (0 : Nat) ≠ Ma := by
   intro e
   obtain ⟨D, ⟨es, ck, h1, -⟩, -⟩ := hA3
   have h2 := hF3.f0
   unfold World.cell? at h2
   simp only [e, h1] at h2
   cases h2
  have nFW : (0 : Nat) ≠ Mw := by
   intro e
   obtain ⟨D, ⟨es, ck, h1, -⟩, -⟩ := hW3
   have h2 := hF3.f0
   unfold World.cell? at h2
   simp only [e, h1] at h2
   cases h2
  have nBW : some w.heap.size ≠ some Mw := by
   intro e
   have e := Option.some.inj e
   obtain ⟨D, ⟨es, ck, h1, -⟩, -⟩ := hW3
   rw [← e] at h1
   have := h1.symm.trans hB3
   simp at this
  have hg4 := hg3.kept gWW (by simpa using ga)
  have hB4 := hB3.kept gWW nBA
  have hW4 := hW3.kept gWW (by simpa using aw.symm)
  have hF4 := hF3.kept gWW nFA
  have HU4 := Lib.hid (Kp3.grown (G := G) (Mw := Mw) gWW (.inr (.inl rfl)))
  clear sG0 sB2 sB3 sB hA3 hg3 hB3 hW3 hF3 hvA hkA gW gWW
  have cf0 := hF4.f0
  have cf1 := hF4.f1
  have cf2 := hF4.f2
  go_wp2_with fail
  go_loopw [108] (OneRel W G Ma Mw nw w.heap.size pre o (#[.int .i64 o.ac, .int .i64 o.ad, .int .i64 0, .int .i64 o.rc, .int .i64 o.id, .int .i64 o.ti, .int .i64 o.pa, .int .i64 o.sf, .int .i64 o.st, .int .i64 o.rk, .string ⟨o.nt.toArray⟩, .int .i64 o.se, .int .i64 o.nn, .string ⟨o.tx.toArray⟩, .slice Ao 0 co])) (fun i _ => 3 - (intOf i).toNat)
  case atStart => exact ⟨0, by omega, rfl, hB4, ⟨rfl, rfl, rfl, Nat.le_refl _, fun _ _ _ _ _ => rfl⟩, fW, hW4, by rw [Hid]; intro c d n q; rw [hz.out]; exact HfW.out c d n q⟩
  case round =>
   obtain ⟨j, hj3, rfl, hBj, hKj, fj, hWj, hfj⟩ := hrel
   by_cases hlt : j < 3
   ·have t1 : decide ((j : Int) < 3) = true := decide_eq_true (by omega)
    have t2 : (j : Int) < 3 := by omega
    have t3 : 0 ≤ (j : Int) := by omega
    have hidx := idx3 j hlt
    have hgj := hg4.kp hKj gw gw gw
    have hnB : w.heap.size ≠ Mw := by simpa using nBW
    have m0 : wr.cell? ⟨w.heap.size, 0, none⟩ = some (.int .i64 o.ac) := by rw [hBj.cell]; rfl
    have m1 : wr.cell? ⟨w.heap.size, 1, none⟩ = some (.int .i64 o.ad) := by rw [hBj.cell]; rfl
    have m2 : wr.cell? ⟨w.heap.size, 2, none⟩ = some (.int .i64 0) := by rw [hBj.cell]; rfl
    have m3 : wr.cell? ⟨w.heap.size, 3, none⟩ = some (.int .i64 o.rc) := by rw [hBj.cell]; rfl
    have m4 : wr.cell? ⟨w.heap.size, 4, none⟩ = some (.int .i64 o.id) := by rw [hBj.cell]; rfl
    have m5 : wr.cell? ⟨w.heap.size, 5, none⟩ = some (.int .i64 o.ti) := by rw [hBj.cell]; rfl
    have m6 : wr.cell? ⟨w.heap.size, 6, none⟩ = some (.int .i64 o.pa) := by rw [hBj.cell]; rfl
    have m7 : wr.cell? ⟨w.heap.size, 7, none⟩ = some (.int .i64 o.sf) := by rw [hBj.cell]; rfl
    have m8 : wr.cell? ⟨w.heap.size, 8, none⟩ = some (.int .i64 o.st) := by rw [hBj.cell]; rfl
    have m9 : wr.cell? ⟨w.heap.size, 9, none⟩ = some (.int .i64 o.rk) := by rw [hBj.cell]; rfl
    have m10 : wr.cell? ⟨w.heap.size, 10, none⟩ = some (.string ⟨o.nt.toArray⟩) := by rw [hBj.cell]; rfl
    have m11 : wr.cell? ⟨w.heap.size, 11, none⟩ = some (.int .i64 o.se) := by rw [hBj.cell]; rfl
    have m12 : wr.cell? ⟨w.heap.size, 12, none⟩ = some (.int .i64 o.nn) := by rw [hBj.cell]; rfl
    have m13 : wr.cell? ⟨w.heap.size, 13, none⟩ = some (.string ⟨o.tx.toArray⟩) := by rw [hBj.cell]; rfl
    have m14 : wr.cell? ⟨w.heap.size, 14, none⟩ = some (.slice Ao 0 co) := by rw [hBj.cell]; rfl
    rcases hw : wrsB o o.id j with _ | _
    ·have kw := fun w' => kW w' j
     rw [hw] at kw
     have hw := Lib.hid hw
     go_wp2_with fail
     refine (kw _).mono ?_
     rintro e w5 ⟨rfl, hb5⟩
     have HB5 := Lib.hid hb5
     clear hb5 kw m0 m1 m2 m3 m4 m5 m6 m7 m8 m9 m10 m11 m12 m13 m14
     go_wp2_with fail
     go_roundw
     case rel => exact ⟨j + 1, hlt, by go_num, hBj.up (Up.of HB5.out), hKj.trans (Kp3.of HB5.out), fj, (hWj.below HB5.out hWj.lt).mono (by omega), by rw [Hid]; intro c d n q; rw [wsJ_skip hw.out]; exact hfj.out c d n q⟩
     case measure => simp [intOf]; omega
    ·have kw := fun w' => kW w' j
     rw [hw] at kw
     have hw := Lib.hid hw
     go_wp2_with fail
     refine (kw _).mono ?_
     rintro e w5 ⟨rfl, hb5⟩
     have hu5 := Up.of hb5
     have hMW2 := hWj.below hb5 hWj.lt
     have hg5 := hgj.up hu5
     have hB5 := hBj.up hu5
     have HB5 := Lib.hid hb5
     clear hb5 kw hu5 m0 m1 m2 m3 m4 m5 m6 m7 m8 m9 m10 m11 m12 m13 m14
     have sG1 : ∀ w', w5.grownBy w' (some Mw) → w'.cell? ⟨G, 1, none⟩ = some (.map (some Mw)) := fun w' g => by rw [(hg5.kept g (by simpa using gw)).cell]; rfl
     have sB0 : ∀ w', w5.grownBy w' (some Mw) → w'.cell? ⟨w.heap.size, 0, none⟩ = some (.int .i64 o.ac) := fun w' g => by rw [(hB5.kept g nBW).cell]; rfl
     have sB1 : ∀ w', w5.grownBy w' (some Mw) → w'.cell? ⟨w.heap.size, 1, none⟩ = some (.int .i64 o.ad) := fun w' g => by rw [(hB5.kept g nBW).cell]; rfl
     have sB4 : ∀ w', w5.grownBy w' (some Mw) → w'.cell? ⟨w.heap.size, 4, none⟩ = some (.int .i64 o.id) := fun w' g => by rw [(hB5.kept g nBW).cell]; rfl
     obtain ⟨kQ, hkW⟩ := keyW (c := o.ac) (d := o.ad) (n := o.id) (f := (j : Int)) hBd.out.ac hBd.out.ad hBd.out.id ⟨by omega, by omega⟩
     have hvW : plainElem (H := Unit) Tryz.prog 4 (.bool true) = some (.lit (.bool true), []) := plainElem_bool Tryz.underlying4
     go_wp2_with fail
     refine wp_region_noPanic ?_
     refine wp_region_held_drew (S := fun w' => w5.grownBy w' (some Mw)) (by kernel_rfl) (grown_drewN w5 1 _) (fun hHeld => ?_)
     refine tk 0 117 (v := ?_) ?_ ?_
     rotate_left
     ·intro w' hSw; clear hSw; go_simp; try (with_reducible rfl)
     try simp only [tkA, tkB, tkC]
     refine tk 1 118 (v := ?_) ?_ ?_
     rotate_left
     ·intro w' hSw; clear hSw; go_simp; try (with_reducible rfl)
     try simp only [tkA, tkB, tkC]
     refine tk 2 119 (v := ?_) ?_ ?_
     rotate_left
     ·intro w' hSw; clear hSw; go_simp; try (with_reducible rfl)
     try simp only [tkA, tkB, tkC]
     refine tk 3 120 (v := ?_) ?_ ?_
     rotate_left
     ·intro w' hS0; go_simp; try (with_reducible rfl)
     try simp only [tkA, tkB, tkC]
     refine tk 4 121 (v := ?_) ?_ ?_
     rotate_left
     ·intro w' hSw; clear hSw; go_simp; try (with_reducible rfl)
     try simp only [tkA, tkB, tkC]
     refine tk 5 122 (v := ?_) ?_ ?_
     rotate_left
     ·intro w' hS0; go_simp; try (with_reducible rfl)
     try simp only [tkA, tkB, tkC]
     refine tk 6 123 (v := ?_) ?_ ?_
     rotate_left
     ·intro w' hSw; clear hSw; go_simp; try (with_reducible rfl)
     try simp only [tkA, tkB, tkC]
     refine tk 7 124 (v := ?_) ?_ ?_
     rotate_left
     ·intro w' hSw; clear hSw; go_simp; try (with_reducible rfl)
     try simp only [tkA, tkB, tkC]
     refine tk 8 125 (v := ?_) ?_ ?_
     rotate_left
     ·intro w' hS0; go_simp; try (with_reducible rfl)
     try simp only [tkA, tkB, tkC]
     refine tk 9 126 (v := ?_) ?_ ?_
     rotate_left
     ·intro w' hSw; clear hSw; go_simp; try (with_reducible rfl)
     try simp only [tkA, tkB, tkC]
     refine tk 10 127 (v := ?_) ?_ ?_
     rotate_left
     ·intro w' hSw; clear hSw; go_simp; try (with_reducible rfl)
     try simp only [tkA, tkB, tkC]
     refine wpAnyH_ready (rs := [11]) (by kernel_rfl) (by simp) ?_
     refine AllReadyH.cons rfl (fun K hK => ?_) AllReadyH.nil
     refine wp_mapUpdate_F _ _ _ 82 rfl 113 4 keyedW Tryz.underlying82 Mw (nw + j) fj (by go_simp; first | done | rfl) (hMW2.drew) (by unfold maxLen; omega) (wrV o.ac o.ad o.id j) (.bool true) _ (by go_simp; first | done | rfl) (by go_simp; first | done | rfl) hkW _ hvW ?_
     intro W hMW' gW
     have gWW := hHeld.trans gW
     refine hK.out _ _ (hHeld.trans gW) (fun hHeld => ?_)
     clear hK K
     try simp only [Act.put, tkA, tkB, tkC]
     refine wpAnyH_done (by kernel_rfl) ?_ _
     refine NoPanic.normal ?_
     clear hHeld
     have hB6 := hB5.kept gWW nBW
     have GW := Lib.hid gWW
     clear sG1 sB0 sB1 sB4 hkW hvW gW gWW
     go_wp2_with fail
     go_roundw
     case rel => exact ⟨j + 1, hlt, by go_num, hB6, (hKj.trans (Kp3.of HB5.out)).trans (Kp3.grown GW.out (.inl rfl)), _, hMW', by rw [Hid]; exact wsJ_step hw.out hfj.out⟩
     case measure => simp [intOf]; omega
   ·obtain rfl : j = 3 := by omega
    clear cf0 cf1 cf2
    go_wp2_with fail
    go_ret
    have hgj := hg4.kp hKj gw gw gw
    refine ⟨rfl, ⟨by rw [lastS_snoc]; exact hgj, ga, gw, aw, ⟨_, hMA'.block (hKj.block Ma hMA'.lt aw aw aw), fun id => ?_⟩, fj, hWj, fun c d n q => by rw [hfj.out, h3.out]⟩, ?_⟩
    ·rw [lastAdd_snoc]
     unfold isAdd
     rw [hk]
     by_cases e : o.id = id
     ·subst e; rw [upd_same, if_pos (by simp)]; rfl
     ·rw [upd_other _ (by simp; omega), if_neg (by simp [e]), HfA.out]
    ·exact ((((Kp3.of HU0.out.b).trans (Kp3.of HU1.out.b)).trans (Kp3.of HU2.out.b)).trans HU3.out).trans (HU4.out.trans hKj.weak)
end Go.Proofs.YtcomeidcmcegfaaGreatDoor
namespace Go.Proofs.YtcomeidcmcegfaaGreatDoor
open Go.RowKit Go.Maps
set_option linter.unusedVariables false
set_option linter.unusedSimpArgs false
def RetOne (G Ma Mw na nw : Nat) (pre : List OP) (o : OP) (w : World) (e : Ending) (w' : World) : Prop :=
 e = .returned (.int .i64 (oneX lastAdd pre o)) ∧ (oneX lastAdd pre o = 0 → ChkSt w' G Ma Mw (na + 1) (nw + 3) (pre ++ [o])) ∧ Kp3 G Ma Mw w w'
def OneSpec (pre : List OP) (o : OP) : Prop := ∀ (w : World) (G Ma Mw na nw : Nat) (Ao : Option Addr) (co : Nat), ChkSt w G Ma Mw na nw pre → o.Bd → Rd w Ao (ovL o.ov) → o.ov.length ≤ co → Tabs w → TabR w → na + 1 < maxLen → nw + 3 < maxLen →
 Calls Tryz.prog 49 #[.pointer (some ⟨G, 0, none⟩), opV o Ao co] w (RetOne G Ma Mw na nw pre o w)
theorem oneSpec_add {pre : List OP} {o : OP} (h0 : checkE o = 0) (hk : o.kd = 0) (hv : o.ov = []) (hless : lessB (lastS pre).1 (lastS pre).2 o.ac o.ad = true) : OneSpec pre o := by
 intro w G Ma Mw na nw Ao co hst bd _ _ hT hF hn hm
 have e : oneX lastAdd pre o = 0 := by unfold oneX addOk; rw [if_pos h0, if_pos hless, hk, hv]; rfl
 unfold RetOne
 rw [e]
 exact (one_add w G Ma Mw na nw pre o Ao co hst bd hT hF h0 hk hv hless hn hm).mono fun _ _ ⟨a, b, c⟩ => ⟨a, fun _ => b, c⟩
theorem ChkSt.up {w w' : World} {G Ma Mw na nw : Nat} {pre : List OP} (h : ChkSt w G Ma Mw na nw pre) (u : Up w w') : ChkSt w' G Ma Mw na nw pre := by
 obtain ⟨f, hf, hf'⟩ := h.a
 obtain ⟨g, hg, hg'⟩ := h.w
 exact ⟨h.g.up u, h.ga, h.gw, h.aw, ⟨f, hf.below u.b hf.lt, hf'⟩, g, hg.below u.b hg.lt, hg'⟩
theorem ChkSt.lt {w : World} {G Ma Mw na nw : Nat} {pre : List OP} (h : ChkSt w G Ma Mw na nw pre) : G < w.heap.size ∧ Ma < w.heap.size ∧ Mw < w.heap.size := by
 obtain ⟨f, hf, -⟩ := h.a
 obtain ⟨g, hg, -⟩ := h.w
 exact ⟨h.g.lt, hf.lt, hg.lt⟩
theorem Kp3.below {G Ma Mw n : Nat} {w w' : World} (h : Kp3 G Ma Mw w w') (hn : n ≤ w.heap.size) (a : n ≤ G) (b : n ≤ Ma) (c : n ≤ Mw) : Below n w w' :=
 ⟨h.os, h.tape, h.output, h.size, fun k hk => h.block k (by omega) (by omega) (by omega) (by omega)⟩
theorem Rd.kp3 {G Ma Mw B : Nat} {w w' : World} {A : Option Addr} {l : List Value} (h : Rd w A l) (k : Kp3 G Ma Mw w w') (hf : From A l B) (a : G < B) (b : Ma < B) (c : Mw < B) : Rd w' A l := by
 intro hl
 obtain ⟨g, off, e, hg, hc⟩ := h hl
 have := hf hl g off e
 refine ⟨g, off, e, Nat.lt_of_lt_of_le hg k.size, fun j u hu => ?_⟩
 have hb := k.block g hg (by omega) (by omega) (by omega)
 have := hc j u hu
 unfold World.cell? at this ⊢
 simp only [hb]; exact this
theorem seenOf_len (l : List OP) : (seenOf l).length = 15 := by
 rcases List.eq_nil_or_concat l with rfl | ⟨l', o, rfl⟩
 ·exact joinN_length _ _ _
 ·rw [List.concat_eq_append, seenOf_snoc, seeL_length]
def ChkRel (w : World) (dev : Int) (As : Option Addr) (ns cs : Nat) (Ax : Option Addr) (cx : Nat) (xs : List OX) (vs vi : Value) (wr : World) : Prop :=
 ∃ (k : Nat) (A : Option Addr) (c : Nat) (Z : List Int), k ≤ xs.length ∧ vi = .int .i64 k ∧ vs = .slice A 15 c ∧ Hid (Z = seenOf ((opL xs).take k)) ∧ Rd wr A (Z.map I64) ∧ From A (Z.map I64) (w.heap.size + 1 + 1 + 1 + 1) ∧ Z.length = 15 ∧
  ChkSt wr (w.heap.size + 1 + 1 + 1) (w.heap.size + 1) (w.heap.size + 1 + 1) k (3 * k) ((opL xs).take k) ∧ Blk wr w.heap.size 27 #[.int .i64 dev, .slice As ns cs, .slice Ax xs.length cx] ∧
  Below w.heap.size w wr ∧ w.heap.size + 1 + 1 + 1 + 1 ≤ wr.heap.size ∧ Hid (chkX lastAdd [] (opL xs) = chkX lastAdd ((opL xs).take k) ((opL xs).drop k))
theorem take_next' (l : List OP) (k : Nat) (hk : k < l.length) : l.take (k + 1) = l.take k ++ [l[k]] := List.take_succ_eq_append_getElem hk
theorem seenOf_next (l : List OP) (k : Nat) (hk : k < l.length) : seenOf (l.take (k + 1)) = seeL (seenOf (l.take k)) l[k].ac l[k].ad := by rw [List.take_succ_eq_append_getElem hk, seenOf_snoc]
theorem chkX_cons (l : List OP) (k : Nat) (hk : k < l.length) : chkX lastAdd (l.take k) (l.drop k) = if oneX lastAdd (l.take k) l[k] = 0 then chkX lastAdd (l.take (k + 1)) (l.drop (k + 1)) else oneX lastAdd (l.take k) l[k] := by
 rw [List.drop_eq_getElem_cons hk, chkX, List.take_succ_eq_append_getElem hk]
set_option maxRecDepth 100000 in
set_option maxHeartbeats 8000000 in
theorem repCheck_of (w : World) (dev : Int) (As : Option Addr) (cs : Nat) (seen : List Int) (Ax : Option Addr) (cx : Nat) (xs : List OX) (hs : Rd w As (seen.map I64)) (hsl : seen.length ≤ maxLen) (hx : OpsRd w Ax xs) (hT : Tabs w) (hF : TabR w)
 (hone : ∀ (k : Nat) (hk : k < xs.length), OneSpec ((opL xs).take k) xs[k].o) :
 Calls Tryz.prog 28 #[.agg #[.int .i64 dev, .slice As seen.length cs, .slice Ax xs.length cx]] w (RetInt (chkE dev (opL xs) seen) w) := by
 have HR : Hid (chkE dev (opL xs) seen = if dev < 1 ∨ 15 < dev then 1 else if 400 < (opL xs).length then 11 else if chkX lastAdd [] (opL xs) = 0 then (if seen = seenOf (opL xs) then 0 else 1) else chkX lastAdd [] (opL xs)) := rfl
 have Hone := Lib.hid hone
 clear hone
 have hb0 := Lib.hid ((Below.refl w.heap.size w).alloc (Nat.le_refl _) (.cells #[.int .i64 dev, .slice As seen.length cs, .slice Ax xs.length cx] 27))
 by_cases d1 : dev < 1
 ·have t1 : decide (dev < 1) = true := decide_eq_true d1
  have HR := Lib.hid (HR.out.trans (if_pos (.inl d1)))
  clear d1
  go_enter Tryz.func28, Tryz.ntmps28
  go_wp2_with fail
  go_ret
  exact ⟨by rw [HR.out]; rfl, hb0.out⟩
 have t1 : decide (dev < 1) = false := decide_eq_false d1
 by_cases d2 : 15 < dev
 ·have t2 : decide (15 < dev) = true := decide_eq_true d2
  have HR := Lib.hid (HR.out.trans (if_pos (.inr d2)))
  clear d1 d2
  go_enter Tryz.func28, Tryz.ntmps28
  go_wp2_with fail
  go_ret
  exact ⟨by rw [HR.out]; rfl, hb0.out⟩
 have t2 : decide (15 < dev) = false := decide_eq_false d2
 have HR := Lib.hid (HR.out.trans (if_neg (by omega)))
 clear d1 d2
 by_cases d3 : 400 < xs.length
 ·have t3 : decide (400 < (xs.length : Int)) = true := decide_eq_true (by omega)
  have HR := Lib.hid (HR.out.trans (if_pos (by rw [opL_len]; exact d3)))
  clear d3
  go_enter Tryz.func28, Tryz.ntmps28
  go_wp2_with fail
  go_ret
  exact ⟨by rw [HR.out]; rfl, hb0.out⟩
 have t3 : decide (400 < (xs.length : Int)) = false := decide_eq_false (by omega)
 have HR := Lib.hid (HR.out.trans (if_neg (by rw [opL_len]; exact d3)))
 have hmk1 : ∀ w', (Instr.makeMap 81 none).run Tryz.prog w' = .ok (.map (some w'.heap.size)) (w'.alloc (.map #[] 0)) := fun _ => by kernel_rfl
 have hmk2 : ∀ w', (Instr.makeMap 82 none).run Tryz.prog w' = .ok (.map (some w'.heap.size)) (w'.alloc (.map #[] 0)) := fun _ => by kernel_rfl
 go_enter Tryz.func28, Tryz.ntmps28
 go_wp2_with fail
 have hBr : Blk ((((w.alloc (.cells #[.int .i64 dev, .slice As seen.length cs, .slice Ax xs.length cx] 27)).alloc (.map #[] 0)).alloc (.map #[] 0)).alloc (.cells #[.map (some (w.heap.size + 1)), .map (some (w.heap.size + 1 + 1)), .int .i64 0, .int .i64 0] 84)) w.heap.size 27 #[.int .i64 dev, .slice As seen.length cs, .slice Ax xs.length cx] := (((Blk.new w _ _).up (Up.alloc' _ _)).up (Up.alloc' _ _)).up (Up.alloc' _ _)
 have hch : ChkSt ((((w.alloc (.cells #[.int .i64 dev, .slice As seen.length cs, .slice Ax xs.length cx] 27)).alloc (.map #[] 0)).alloc (.map #[] 0)).alloc (.cells #[.map (some (w.heap.size + 1)), .map (some (w.heap.size + 1 + 1)), .int .i64 0, .int .i64 0] 84)) (w.heap.size + 1 + 1 + 1) (w.heap.size + 1) (w.heap.size + 1 + 1) 0 0 [] := by
  refine ⟨?_, by omega, by omega, by omega, ⟨fun _ => none, ?_, fun id => rfl⟩, fun _ => none, ?_, fun c d n q => rfl⟩
  ·have := Blk.new (((w.alloc (.cells #[.int .i64 dev, .slice As seen.length cs, .slice Ax xs.length cx] 27)).alloc (.map #[] 0)).alloc (.map #[] 0)) 84 #[.map (some (w.heap.size + 1)), .map (some (w.heap.size + 1 + 1)), .int .i64 0, .int .i64 0]
   rw [World.size_alloc, World.size_alloc, World.size_alloc] at this
   exact this
  ·have := MapF.made Tryz.prog 3 3 (w.alloc (.cells #[.int .i64 dev, .slice As seen.length cs, .slice Ax xs.length cx] 27))
   rw [World.size_alloc] at this
   exact (this.alloc _).alloc _
  ·have := MapF.made Tryz.prog 113 4 ((w.alloc (.cells #[.int .i64 dev, .slice As seen.length cs, .slice Ax xs.length cx] 27)).alloc (.map #[] 0))
   rw [World.size_alloc, World.size_alloc] at this
   exact this.alloc _
 have hbe : Below w.heap.size w ((((w.alloc (.cells #[.int .i64 dev, .slice As seen.length cs, .slice Ax xs.length cx] 27)).alloc (.map #[] 0)).alloc (.map #[] 0)).alloc (.cells #[.map (some (w.heap.size + 1)), .map (some (w.heap.size + 1 + 1)), .int .i64 0, .int .i64 0] 84)) := ((((Below.refl w.heap.size w).alloc (Nat.le_refl _) _).alloc (by simp) _).alloc (by simp; omega) _).alloc (by simp; omega) _
 have hsz : w.heap.size + 1 + 1 + 1 + 1 ≤ ((((w.alloc (.cells #[.int .i64 dev, .slice As seen.length cs, .slice Ax xs.length cx] 27)).alloc (.map #[] 0)).alloc (.map #[] 0)).alloc (.cells #[.map (some (w.heap.size + 1)), .map (some (w.heap.size + 1 + 1)), .int .i64 0, .int .i64 0] 84)).heap.size := by simp
 generalize ((((w.alloc (.cells #[.int .i64 dev, .slice As seen.length cs, .slice Ax xs.length cx] 27)).alloc (.map #[] 0)).alloc (.map #[] 0)).alloc (.cells #[.map (some (w.heap.size + 1)), .map (some (w.heap.size + 1 + 1)), .int .i64 0, .int .i64 0] 84)) = wb at *
 refine (join_any _ none 0 [] (Rd.nil _ _) (by decide) none 0 [] (Rd.nil _ _) (by decide)).mono ?_
 rintro e w1 ⟨A, c, rfl, hown, hb1⟩
 have hZ15 : (joinL [] []).length = 15 := joinN_length _ _ _
 have hZ0 : Hid (joinL [] [] = seenOf ((opL xs).take 0)) := rfl
 generalize joinL [] [] = Z at *
 have hu1 := Up.of hb1
 have hBr := hBr.up hu1
 have hch := hch.up hu1
 have hbe := stepB hbe hb1
 have hR := hown.rd'
 have hfr := hown.fromB hsz
 have hsz := Nat.le_trans hsz hb1.size
 have cr2 : w1.cell? ⟨w.heap.size, 2, none⟩ = some (.slice Ax xs.length cx) := by rw [hBr.cell]; rfl
 have HU1 := Lib.hid hu1
 clear hu1 hb1 hown
 go_wp2_with fail
 go_loopw [4, 27] (ChkRel w dev As seen.length cs Ax cx xs) (fun _ i _ => xs.length - (intOf i).toNat)
 case atStart => exact ⟨0, A, c, Z, Nat.zero_le _, rfl, rfl, hZ0, hR, hfr, hZ15, hch, hBr, hbe, hsz, rfl⟩
 case round =>
  clear hBr hch hbe hsz hR hfr hZ15 hZ0
  obtain ⟨k, A, c, Z, hk, rfl, rfl, hZ, hR, hfr, hZ15, hch, hBr, hbe, hsz, hX⟩ := hrel
  by_cases hlt : k < xs.length
  ·have t1 : decide ((k : Int) < (xs.length : Int)) = true := decide_eq_true (by omega)
   have t2 : (k : Int) < (xs.length : Int) := by omega
   have t3 : 0 ≤ (k : Int) := by omega
   obtain ⟨b, off, rfl, hblt, hrg⟩ := (hx.below hbe).range hlt
   have hok := (hx.below hbe).ok _ (List.getElem_mem hlt)
   have hO := Hone.out k hlt
   have hC := Lib.hid (chkX_cons (opL xs) k (by rw [opL_len]; exact hlt))
   have hN := Lib.hid (seenOf_next (opL xs) k (by rw [opL_len]; exact hlt))
   have hL := Lib.hid (take_next' (opL xs) k (by rw [opL_len]; exact hlt))
   simp only [opL_get xs k hlt] at hC hN hL
   generalize xs[k] = x at *
   obtain ⟨o, Ao, co⟩ := x
   obtain ⟨bdo, ro, qo⟩ := hok
   dsimp only at bdo ro qo hC hN hL hO
   have m0 : wr.cell? ⟨b, off + k * 15, none⟩ = some (.int .i64 o.ac) := hrg 0 _ rfl
   have m1 : wr.cell? ⟨b, off + k * 15 + 1, none⟩ = some (.int .i64 o.ad) := hrg 1 _ rfl
   have m2 : wr.cell? ⟨b, off + k * 15 + 2, none⟩ = some (.int .i64 o.kd) := hrg 2 _ rfl
   have m3 : wr.cell? ⟨b, off + k * 15 + 3, none⟩ = some (.int .i64 o.rc) := hrg 3 _ rfl
   have m4 : wr.cell? ⟨b, off + k * 15 + 4, none⟩ = some (.int .i64 o.id) := hrg 4 _ rfl
   have m5 : wr.cell? ⟨b, off + k * 15 + 5, none⟩ = some (.int .i64 o.ti) := hrg 5 _ rfl
   have m6 : wr.cell? ⟨b, off + k * 15 + 6, none⟩ = some (.int .i64 o.pa) := hrg 6 _ rfl
   have m7 : wr.cell? ⟨b, off + k * 15 + 7, none⟩ = some (.int .i64 o.sf) := hrg 7 _ rfl
   have m8 : wr.cell? ⟨b, off + k * 15 + 8, none⟩ = some (.int .i64 o.st) := hrg 8 _ rfl
   have m9 : wr.cell? ⟨b, off + k * 15 + 9, none⟩ = some (.int .i64 o.rk) := hrg 9 _ rfl
   have m10 : wr.cell? ⟨b, off + k * 15 + 10, none⟩ = some (.string ⟨o.nt.toArray⟩) := hrg 10 _ rfl
   have m11 : wr.cell? ⟨b, off + k * 15 + 11, none⟩ = some (.int .i64 o.se) := hrg 11 _ rfl
   have m12 : wr.cell? ⟨b, off + k * 15 + 12, none⟩ = some (.int .i64 o.nn) := hrg 12 _ rfl
   have m13 : wr.cell? ⟨b, off + k * 15 + 13, none⟩ = some (.string ⟨o.tx.toArray⟩) := hrg 13 _ rfl
   have m14 : wr.cell? ⟨b, off + k * 15 + 14, none⟩ = some (.slice Ao o.ov.length co) := hrg 14 _ rfl
   clear hrg
   have hBo := Blk.new wr 43 (opC o Ao co).toArray
   have hu := Up.of ((Below.refl wr.heap.size wr).alloc (Nat.le_refl _) (.cells (opC o Ao co).toArray 43))
   have kO := hO (wr.alloc (.cells (opC o Ao co).toArray 43)) _ _ _ _ _ Ao co (hch.up hu) bdo (ro.below hu.b) qo ((hT.below hbe).below hu.b) ((hF.below hbe).below hu.b) (by unfold maxLen; omega) (by unfold maxLen; omega)
   have hBr1 := hBr.up hu
   have hR1 := hR.below hu.b
   have HU := Lib.hid hu
   unfold RetOne at kO
   unfold opV opC at kO
   unfold opC at hBo HU hBr1 hR1
   generalize oneX lastAdd ((opL xs).take k) o = E at *
   clear hu hO
   by_cases he : E = 0
   ·have he' := Lib.hid he
    rw [he] at kO
    clear he
    have kS := fun w' (h : Rd w' A (Z.map I64)) => see_any w' A c Z h (by omega) o.ac o.ad
    unfold RetInts at kS
    simp only [seeL_length, hZ15] at kS
    go_wp2_with fail
    refine kO.mono ?_
    rintro e w5 ⟨rfl, hst5, hk5⟩
    have hst5 := hst5 trivial
    have hBo5 := hBo.kp hk5 (by omega) (by omega) (by omega)
    have cb0 : w5.cell? ⟨wr.heap.size, 0, none⟩ = some (.int .i64 o.ac) := by rw [hBo5.cell]; rfl
    have cb1 : w5.cell? ⟨wr.heap.size, 1, none⟩ = some (.int .i64 o.ad) := by rw [hBo5.cell]; rfl
    have hR5 := hR1.kp3 hk5 hfr (by omega) (by omega) (by omega)
    have hBr5 := hBr1.kp hk5 (by omega) (by omega) (by omega)
    have hbe5 := (stepB hbe HU.out.b).trans (hk5.below (n := w.heap.size) (by simp; omega) (by omega) (by omega) (by omega))
    have hsz5 : w.heap.size + 1 + 1 + 1 + 1 ≤ w5.heap.size := Nat.le_trans hsz (Nat.le_trans HU.out.b.size hk5.size)
    have kS := kS w5 hR5
    have HK5 := Lib.hid hk5
    clear kO hk5 hBo m0 m1 m2 m3 m4 m5 m6 m7 m8 m9 m10 m11 m12 m13 m14 hR1 hBr1
    go_wp2_with fail
    refine kS.mono ?_
    rintro e w6 ⟨A6, c6, rfl, hown6, hb6⟩
    have hown6' := Lib.hid hown6
    have hb6' := Lib.hid hb6
    have hst5 := Lib.hid hst5
    clear kS hown6 hb6 cb0 cb1
    go_wp2_with fail
    go_roundw
    case rel =>
     refine ⟨k + 1, A6, c6, seeL Z o.ac o.ad, hlt, by go_num, rfl, by rw [Hid, hN.out, ← hZ.out], hown6'.out.rd', hown6'.out.fromB hsz5, seeL_length _ _ _, ?_, hBr5.up (Up.of hb6'.out), stepB hbe5 hb6'.out, Nat.le_trans hsz5 hb6'.out.size, by rw [Hid, hX.out, hC.out, if_pos he'.out]⟩
     rw [hL.out, show 3 * (k + 1) = 3 * k + 3 by omega]
     exact hst5.out.up (Up.of hb6'.out)
    case measure => simp [intOf]; omega
   ·have t4 : (E != 0) = true := by simpa using he
    have t5 : (E == 0) = false := by simpa using he
    have he' := Lib.hid he
    go_wp2_with fail
    refine kO.mono ?_
    rintro e w5 ⟨rfl, -, hk5⟩
    have hbe5 := Lib.hid ((stepB hbe HU.out.b).trans (hk5.below (n := w.heap.size) (by simp; omega) (by omega) (by omega) (by omega)))
    clear kO hk5 hBo m0 m1 m2 m3 m4 m5 m6 m7 m8 m9 m10 m11 m12 m13 m14 hR1 hBr1
    go_wp2_with fail
    go_ret
    exact ⟨by rw [HR.out, hX.out, hC.out, if_neg he'.out, if_neg he'.out]; rfl, hbe5.out⟩
  ·obtain rfl : k = xs.length := by omega
   have t1 : decide ((xs.length : Int) < (xs.length : Int)) = false := by simp
   have cr1 : wr.cell? ⟨w.heap.size, 1, none⟩ = some (.slice As seen.length cs) := by rw [hBr.cell]; rfl
   have kE := sequalI_any wr As A seen Z cs c (hs.below hbe) hR hsl (by unfold maxLen; omega)
   rw [hZ15] at kE
   have hX0 : Hid (chkX lastAdd [] (opL xs) = 0) := by rw [Hid, hX.out, ← opL_len xs, List.take_length, List.drop_length]; rfl
   have hZe : Hid (Z = seenOf (opL xs)) := by rw [Hid, hZ.out, ← opL_len xs, List.take_length]
   have hbe' := Lib.hid hbe
   clear hX hZ
   by_cases he : seen = Z
   ·rw [show (seen == Z) = true from beq_iff_eq.2 he] at kE
    have he' := Lib.hid he
    clear he
    go_wp2_with fail
    refine kE.mono ?_
    rintro e w5 ⟨rfl, hb5⟩
    have hb5' := Lib.hid hb5
    clear kE hb5
    go_wp2_with fail
    go_ret
    exact ⟨by rw [HR.out, hX0.out, if_pos rfl, if_pos (he'.out.trans hZe.out)]; rfl, stepB hbe'.out hb5'.out⟩
   ·rw [show (seen == Z) = false from beq_eq_false_iff_ne.2 he] at kE
    have he' := Lib.hid he
    clear he
    go_wp2_with fail
    refine kE.mono ?_
    rintro e w5 ⟨rfl, hb5⟩
    have hb5' := Lib.hid hb5
    clear kE hb5
    go_wp2_with fail
    go_ret
    exact ⟨by rw [HR.out, hX0.out, if_pos rfl, if_neg (fun h => he'.out (h.trans hZe.out.symm))]; rfl, stepB hbe'.out hb5'.out⟩
end Go.Proofs.YtcomeidcmcegfaaGreatDoor
