/-
  What Read of layer 53 reads of what Write returned: whole, cut, with further bytes, with a changed byte. Conditions: right operations; no program in sight.
  The plain functions of Restore of layer 53 and of Merge of layer 51 into a new replica, and what they give for the operations of a right replica. Conditions: none; no program in sight.
  The example of layer 53, in plain Lean: its journal, what is read of it, what is restored of it. Conditions: none; no program in sight.
  The walks of New of layer 50, of the equality of two lists of numbers, of the example of the statements of layer 53. Conditions: numbers are ints; slices read as lists of ints.
-/
import Derived.Test.YtcomeidcmcegfaaGreatDoorZM
import Derived.Test.YtcomeidcmcegfaaGreatDoorZL
import Derived.Test.YtcomeidcmcegfaaGreatDoorZN
import Derived.KernelRfl
import Derived.Test.YtcomeidcmcegfaaGreatDoorClockCov
namespace Go.Proofs.YtcomeidcmcegfaaGreatDoor
open Go.RowKit Go.Lib
set_option linter.unusedVariables false
set_option linter.unusedSimpArgs false
theorem fromJ_back {o : OP} (h : checkE o = 0) (hb : o.Bd) : fE (opB o) = 0 ∧ fR (opB o) = o := by
 obtain ⟨h1, h2, h3⟩ := check_size h
 have hc := (from_cut o [] (opB o).length hb h3 (opB o) (by rw [List.append_nil, List.take_length])).2 (Nat.le_refl _)
 have e8 : fQ8 (opB o) = (fS (opB o)).2 := by unfold fQ8; rw [hc.2, if_neg (by simp)]
 have e0 : fE (opB o) = 0 := by unfold fE orE; rw [e8, hc.2, if_pos rfl, hc.1, h]
 exact ⟨e0, by rw [fR_ok e0, hc.1]⟩
def Rt (l : List OP) : Prop := ∀ o ∈ l, checkE o = 0 ∧ o.Bd
theorem fstE_all {l : List OP} (h : fstE l = 0) : ∀ o ∈ l, checkE o = 0 := by
 induction l with
 | nil => intro o ho; cases ho
 | cons a l ih =>
  rw [fstE] at h
  by_cases hc : checkE a = 0
  ·rw [if_pos hc] at h
   intro o ho
   rcases List.mem_cons.1 ho with rfl | ho
   ·exact hc
   ·exact ih h o ho
  ·rw [if_neg hc] at h; exact absurd h hc
theorem fstE_of {l : List OP} (h : ∀ o ∈ l, checkE o = 0) : fstE l = 0 := by
 induction l with
 | nil => rfl
 | cons a l ih => rw [fstE, if_pos (h a (by simp))]; exact ih fun o ho => h o (List.mem_cons_of_mem _ ho)
theorem wrt_good {l : List OP} (h : wrtE l = 0) : fstE l = 0 ∧ (catE l).length ≤ 1048576 ∧ wrtB l = catE l := by
 refine ⟨?_, ?_, by unfold wrtB; rw [if_pos h]⟩
 ·unfold wrtE at h; split at h
  ·assumption
  ·exact h
 ·unfold wrtE at h; split at h
  ·split at h <;> omega
  ·contradiction
theorem Rt.of {l : List OP} (h : wrtE l = 0) (hb : ∀ o ∈ l, o.Bd) : Rt l := fun o ho => ⟨fstE_all (wrt_good h).1 o ho, hb o ho⟩
theorem Rt.take {l : List OP} (h : Rt l) (k : Nat) : Rt (l.take k) := fun o ho => h o (List.mem_of_mem_take ho)
theorem catE_cons (o : OP) (l : List OP) : catE (o :: l) = entB o ++ catE l := rfl
theorem catE_app (l m : List OP) : catE (l ++ m) = catE l ++ catE m := by simp [catE]
theorem entB_pos {o : OP} (h : checkE o = 0) : 6 ≤ (entB o).length := by rw [(entB_ok h).1, fseal_length]; omega
theorem jr_ent {o : OP} (h : checkE o = 0) (hb : o.Bd) (p s : List UInt8) : jrB (p ++ (entB o ++ s)) (p.length : Int) = true ∧
 frT (p ++ (entB o ++ s)) (p.length : Int) = (((p ++ entB o).length : Nat) : Int) ∧ fR (frC (p ++ (entB o ++ s)) (p.length : Int)) = o := by
 have hs := opB_size h
 have ho := op_seal p s 1 (opB o) (by omega) (by omega) (by omega)
 obtain ⟨f1, f2⟩ := fromJ_back h hb
 rw [(entB_ok h).1]
 unfold jrB frE frK frC frT
 rw [ho]
 exact ⟨by simp [f1], rfl, f2⟩
def ends (a : Nat) : List OP → List (Int × OP)
 | [] => []
 | o :: l => (((a + (entB o).length : Nat) : Int), o) :: ends (a + (entB o).length) l
theorem ends_snd : ∀ (l : List OP) (a : Nat), (ends a l).map Prod.snd = l := by
 intro l
 induction l with
 | nil => intro a; rfl
 | cons o l ih => intro a; rw [ends, List.map_cons, ih]
theorem jrF_cat : ∀ (l : List OP) (p s : List UInt8) (f : Nat), Rt l →
 jrF (p ++ (catE l ++ s)) (l.length + f) (p.length : Int) = (ends p.length l ++ (jrF (p ++ (catE l ++ s)) f (((p.length + (catE l).length : Nat)) : Int)).1, (jrF (p ++ (catE l ++ s)) f (((p.length + (catE l).length : Nat)) : Int)).2) := by
 intro l
 induction l with
 | nil => intro p s f _; simp [catE, ends]
 | cons o l ih =>
  intro p s f hR
  obtain ⟨h1, h2⟩ := hR o (by simp)
  have e : p ++ (catE (o :: l) ++ s) = p ++ (entB o ++ (catE l ++ s)) := by rw [catE_cons, List.append_assoc]
  obtain ⟨j1, j2, j3⟩ := jr_ent h1 h2 p (catE l ++ s)
  have ih' := ih (p ++ entB o) s f (fun x hx => hR x (List.mem_cons_of_mem _ hx))
  rw [List.append_assoc] at ih'
  rw [e, List.length_cons, show l.length + 1 + f = (l.length + f) + 1 by omega, jrF, if_pos j1, j2, j3, ih', ends, catE_cons]
  simp only [List.length_append, List.cons_append, Nat.add_assoc]
theorem jr_cat (l : List OP) (s : List UInt8) (hR : Rt l) (hs : jrB (catE l ++ s) (((catE l).length : Nat) : Int) = false) :
 (jr (catE l ++ s)).1.map Prod.snd = l ∧ (jr (catE l ++ s)).2 = (((catE l).length : Nat) : Int) := by
 have hlen : l.length ≤ (catE l).length := by
  clear hs
  induction l with
  | nil => simp
  | cons o l ih =>
   have := ih (fun x hx => hR x (List.mem_cons_of_mem _ hx))
   have := entB_pos (hR o (by simp)).1
   rw [catE_cons, List.length_append, List.length_cons]; omega
 obtain ⟨f, hf⟩ : ∃ f, (catE l ++ s).length + 1 = l.length + f := ⟨(catE l ++ s).length + 1 - l.length, by rw [List.length_append]; omega⟩
 have h := jrF_cat l [] s f hR
 rw [List.nil_append, List.length_nil, Nat.zero_add, jrF_no hs, List.append_nil] at h
 unfold jr
 rw [hf]
 rw [show ((0 : Nat) : Int) = 0 from rfl] at h
 rw [h]
 exact ⟨ends_snd l 0, rfl⟩
theorem jrB_err {b : List UInt8} {q : Int} (h : frE b q ≠ 0) : jrB b q = false := by
 unfold jrB; rw [show (frE b q == 0) = false by simpa using h]; rfl
theorem jr_all (l : List OP) (hR : Rt l) : (jr (catE l)).1.map Prod.snd = l ∧ (jr (catE l)).2 = (((catE l).length : Nat) : Int) := by
 have h := jr_cat l [] hR (jrB_err (by unfold frE; rw [op_end (by simp)]; decide))
 rwa [List.append_nil] at h
def KeptJ (l : List OP) (c j m : Nat) : Prop := m ≤ j ∧ (catE (l.take m)).length ≤ c ∧ (m = j ∨ c < (catE (l.take (m + 1))).length)
theorem KeptJ.start (l : List OP) (c : Nat) : KeptJ l c 0 0 := ⟨by omega, by simp [catE], .inl rfl⟩
theorem KeptJ.no {l : List OP} {c j m : Nat} (h : KeptJ l c j m) (hc : c < (catE (l.take (j + 1))).length) : KeptJ l c (j + 1) m := by
 obtain ⟨h1, h2, h3⟩ := h
 refine ⟨by omega, h2, .inr ?_⟩
 rcases h3 with rfl | h3
 ·exact hc
 ·exact h3
theorem jr_cut (l : List OP) (hR : Rt l) (c m : Nat) (hk : KeptJ l c l.length m) (hc : c ≤ (catE l).length) : (jr ((catE l).take c)).1.map Prod.snd = l.take m ∧ (jr ((catE l).take c)).2 = (((catE (l.take m)).length : Nat) : Int) := by
 obtain ⟨h1, h2, h3⟩ := hk
 have e : catE l = catE (l.take m) ++ catE (l.drop m) := by rw [← catE_app, List.take_append_drop]
 have et : (catE l).take c = catE (l.take m) ++ (catE (l.drop m)).take (c - (catE (l.take m)).length) := by
  rw [e, List.take_append, List.take_of_length_le h2]
 rw [et]
 refine jr_cat (l.take m) _ (hR.take m) (jrB_err ?_)
 rcases Nat.lt_or_ge m l.length with h4 | h4
 ·have h5 : c < (catE (l.take (m + 1))).length := h3.resolve_left (by omega)
  rw [catE_next l m h4, List.length_append] at h5
  have hj : c - (catE (l.take m)).length < (entB l[m]).length := by omega
  have h6 := (hR l[m] (List.getElem_mem h4)).1
  rw [List.drop_eq_getElem_cons h4, catE_cons, List.take_append_of_le_length (by omega), (entB_ok h6).1]
  rw [(entB_ok h6).1] at hj
  unfold frE
  rw [op_cut _ 1 (opB l[m]) _ (by omega) (by omega) (by have := opB_size h6; omega) hj]
  decide
 ·rw [List.drop_eq_nil_of_le h4]
  unfold frE
  rw [op_end (by simp [catE])]
  decide
end Go.Proofs.YtcomeidcmcegfaaGreatDoor
namespace Go.Proofs.YtcomeidcmcegfaaGreatDoor
open Go.RowKit Go.Lib
set_option linter.unusedVariables false
set_option linter.unusedSimpArgs false
def mrgE (dev : Int) (l : List OP) : Int := match refM [] l with
 | none => 8
 | some D => chkE dev D (seenOf D)
def mrgL (dev : Int) (l : List OP) : List OP := if mrgE dev l = 0 then (refM [] l).getD [] else []
def jrL (b : List UInt8) : List OP := (jr b).1.map Prod.snd
def rstE (dev : Int) (b : List UInt8) : Int := if dev < 1 ∨ 15 < dev then 1 else mrgE dev (jrL b)
def rstL (dev : Int) (b : List UInt8) : List OP := if rstE dev b = 0 then mrgL dev (jrL b) else []
theorem mrg_none {dev : Int} {l : List OP} (h : refM [] l = none) : mrgE dev l = 8 := by unfold mrgE; rw [h]
theorem mrg_some {dev : Int} {l D : List OP} (h : refM [] l = some D) : mrgE dev l = chkE dev D (seenOf D) := by unfold mrgE; rw [h]
theorem mrgL_some {dev : Int} {l D : List OP} (h : refM [] l = some D) (h0 : chkE dev D (seenOf D) = 0) : mrgL dev l = D := by
 unfold mrgL; rw [mrg_some h, if_pos h0, h]; rfl
theorem chkX_app (fa : List OP → Int → Option OP) : ∀ (l pre m : List OP), chkX fa pre (l ++ m) = 0 → chkX fa pre l = 0 := by
 intro l
 induction l with
 | nil => intro pre m _; rfl
 | cons o l ih =>
  intro pre m h
  rw [List.cons_append, chkX] at h
  rw [chkX]
  by_cases h0 : oneX fa pre o = 0
  ·rw [if_pos h0] at h ⊢; exact ih _ _ h
  ·rw [if_neg h0] at h; exact absurd h h0
theorem chkX_good (fa : List OP → Int → Option OP) : ∀ (l pre : List OP), Inc pre → (∀ p ∈ pre, checkE p = 0) → chkX fa pre l = 0 → Inc (pre ++ l) ∧ ∀ p ∈ pre ++ l, checkE p = 0 := by
 intro l
 induction l with
 | nil => intro pre h1 h2 _; rw [List.append_nil]; exact ⟨h1, h2⟩
 | cons o l ih =>
  intro pre h1 h2 h
  rw [chkX] at h
  by_cases h0 : oneX fa pre o = 0
  ·rw [if_pos h0] at h
   obtain ⟨c1, c2, -, -⟩ := oneX_ok h0
   have := ih (pre ++ [o]) (h1.next c2) (fun p hp => (List.mem_append.1 hp).elim (h2 p) (fun hp => by rw [List.mem_singleton.1 hp]; exact c1)) h
   rwa [List.append_assoc] at this
  ·rw [if_neg h0] at h; exact absurd h h0
def RightL (l : List OP) : Prop := chkX firstAdd [] l = 0
theorem RightL.all {l : List OP} (h : RightL l) : ∀ p ∈ l, checkE p = 0 := (chkX_good firstAdd l [] List.Pairwise.nil (by simp) h).2
theorem RightL.last {l : List OP} (h : RightL l) : chkX lastAdd [] l = 0 := by rw [chkX_same l [] (by simp) List.Pairwise.nil]; exact h
theorem RightL.take {l : List OP} (h : RightL l) (m : Nat) : RightL (l.take m) := chkX_app firstAdd (l.take m) [] (l.drop m) (by rw [List.take_append_drop]; exact h)
theorem chkE_right {l : List OP} (h : RightL l) {dev : Int} (hd : 1 ≤ dev ∧ dev ≤ 15) (hl : l.length ≤ 400) : chkE dev l (seenOf l) = 0 := by
 unfold chkE
 rw [if_neg (by omega), if_neg (by omega), if_pos h.last, if_pos rfl]
end Go.Proofs.YtcomeidcmcegfaaGreatDoor
namespace Go.Proofs.YtcomeidcmcegfaaGreatDoor
open Go.RowKit Go.Lib
set_option linter.unusedVariables false
def exJ : OP := ⟨1, 2, 0, 3, 18, 0, 0, 0, 9, 0, [98, 97], 0, 0, [], []⟩
theorem exJ_c : checkE exJ = 0 := by decide +kernel
theorem exZ_c : checkE OP.zero = 27 := by decide +kernel
theorem exJ_bd : exJ.Bd := ⟨⟨by decide, by decide⟩, ⟨by decide, by decide⟩, ⟨by decide, by decide⟩, ⟨by decide, by decide⟩, ⟨by decide, by decide⟩, ⟨by decide, by decide⟩, ⟨by decide, by decide⟩, ⟨by decide, by decide⟩, ⟨by decide, by decide⟩, ⟨by decide, by decide⟩,
 ⟨by decide, by decide⟩, ⟨by decide, by decide⟩, by show 2 ≤ _; unfold maxLen; omega, by show 0 ≤ _; omega, (by intro p hp; cases hp), by show 0 ≤ _; omega⟩
theorem exZ_bd : OP.zero.Bd := ⟨⟨by decide, by decide⟩, ⟨by decide, by decide⟩, ⟨by decide, by decide⟩, ⟨by decide, by decide⟩, ⟨by decide, by decide⟩, ⟨by decide, by decide⟩, ⟨by decide, by decide⟩, ⟨by decide, by decide⟩, ⟨by decide, by decide⟩, ⟨by decide, by decide⟩,
 ⟨by decide, by decide⟩, ⟨by decide, by decide⟩, by show 0 ≤ _; omega, by show 0 ≤ _; omega, (by intro p hp; cases hp), by show 0 ≤ _; omega⟩
theorem exJ_rt : Rt [exJ] := fun o ho => by rw [List.mem_singleton.1 ho]; exact ⟨exJ_c, exJ_bd⟩
theorem exJ_right : RightL [exJ] := by show chkX firstAdd [] [exJ] = 0; decide +kernel
def exL : List UInt8 := catE [exJ]
theorem exL_len : 6 ≤ exL.length ∧ exL.length ≤ 1020 := by
 unfold exL
 have h1 := entB_pos exJ_c
 have h2 := entB_len exJ
 have e : catE [exJ] = entB exJ := by unfold catE; simp
 rw [e]; omega
theorem exL_wrt : wrtE [exJ] = 0 ∧ wrtB [exJ] = exL := by
 have h : wrtE [exJ] = 0 := by
  have := exL_len
  unfold exL at this
  unfold wrtE
  rw [if_pos (fstE_of fun o ho => by rw [List.mem_singleton.1 ho]; exact exJ_c), if_neg (by omega)]
 exact ⟨h, (wrt_good h).2.2⟩
theorem exL_jr : (jr exL).1.map Prod.snd = [exJ] ∧ (jr exL).2 = (exL.length : Int) := jr_all [exJ] exJ_rt
theorem exN_jr : jr [] = ([], 0) := by
 have h : frE [] ((0 : Nat) : Int) ≠ 0 := by unfold frE; rw [op_end (by simp)]; decide
 unfold jr
 rw [jrF_no (jrB_err (b := []) (q := 0) h)]
theorem exL_cut : (jr (exL.take (exL.length - 1))).2 = 0 := by
 have hl := exL_len
 have := (jr_cut [exJ] exJ_rt (exL.length - 1) 0 ⟨by omega, by simp [catE], .inr (by show _ < exL.length; omega)⟩ (by show _ ≤ exL.length; omega)).2
 exact this
end Go.Proofs.YtcomeidcmcegfaaGreatDoor
namespace Go.Proofs.YtcomeidcmcegfaaGreatDoor
open Go.RowKit
set_option linter.unusedVariables false
set_option linter.unusedSimpArgs false
def From (A : Option Addr) (l : List Value) (B : Nat) : Prop := l ≠ [] → ∀ b off, A = some ⟨b, off, none⟩ → B ≤ b
theorem From.nil (A : Option Addr) (B : Nat) : From A [] B := fun h => absurd rfl h
theorem From.far {A : Option Addr} {l : List Value} {B g : Nat} (h : From A l B) (hg : g < B) : Far A l g := fun hl b off e hb => by have := h hl b off e; omega
theorem From.lower {A : Option Addr} {l : List Value} {B B' : Nat} (h : From A l B) (hb : B' ≤ B) : From A l B' := fun hl b off e => Nat.le_trans hb (h hl b off e)
theorem Own.fromB {w : World} {base : Nat} {e : TypeId} {size : Nat} {A : Option Addr} {c n : Nat} {xs : List Value} (h : Own w base e size (.slice A n c) n xs) {B : Nat} (hB : B ≤ base) : From A xs B := by
 intro hne b off hA
 have := h.lt b (by subst hA; simp [Value.ownBlock])
 omega
def RetRep (dev : Int) (seen : List Int) (l : List OP) (er : Int) (w : World) (e : Ending) (w' : World) : Prop :=
 ∃ As cs Ao co xs, e = .returned (.tuple #[.agg #[.int .i64 dev, .slice As seen.length cs, .slice Ao xs.length co], .int .i64 er]) ∧ Rd w' As (seen.map I64) ∧ seen.length ≤ cs ∧ OpsRd w' Ao xs ∧ opL xs = l ∧ xs.length ≤ co ∧ Below w.heap.size w w' ∧ From As (seen.map I64) w.heap.size ∧ From Ao (opsC xs) w.heap.size
theorem Own.far {w : World} {base : Nat} {e : TypeId} {size : Nat} {A : Option Addr} {c n : Nat} {xs : List Value} (h : Own w base e size (.slice A n c) n xs) {g : Nat} (hg : g < base) : Far A xs g := by
 intro hne b off hA hb
 have := h.lt b (by subst hA; simp [Value.ownBlock])
 omega
theorem Rd.set {w : World} {A : Option Addr} {l : List Value} {g : Nat} (h : Rd w A l) (hf : Far A l g) (i : Nat) (v : Value) : Rd (w.setCell ⟨g, i, none⟩ v) A l := h.far (grown_set w g i v) hf
def joinZ : List Int := joinL [] []
set_option maxHeartbeats 2000000 in
theorem new_yes (w : World) (dev : Int) (h1 : 1 ≤ dev) (h2 : dev ≤ 15) : Calls Tryz.prog 14 #[.int .i64 dev] w (RetRep dev joinZ [] 0 w) := by
 have t1 : decide (dev < 1) = false := decide_eq_false (by omega)
 have t2 : decide (15 < dev) = false := decide_eq_false (by omega)
 have hR := Blk.new w 27 #[.int .i64 0, .slice none 0 0, .slice none 0 0]
 have k := join_any (w.alloc (.cells #[.int .i64 0, .slice none 0 0, .slice none 0 0] 27)) none 0 [] (Rd.nil _ _) (by decide) none 0 [] (Rd.nil _ _) (by decide)
 have k : Calls Tryz.prog 23 #[.slice none 0 0, .slice none 0 0] (w.alloc (.cells #[.int .i64 0, .slice none 0 0, .slice none 0 0] 27)) (RetInts joinZ (w.alloc (.cells #[.int .i64 0, .slice none 0 0, .slice none 0 0] 27))) := k
 clear h1 h2
 generalize joinZ = Z at *
 go_enter Tryz.func14, Tryz.ntmps14
 go_wp2_with fail
 refine k.mono ?_
 rintro e w2 ⟨A, c, rfl, hown, hb⟩
 have hR2 := hR.up (Up.of hb)
 have c0 : w2.cell? ⟨w.heap.size, 0, none⟩ = some (.int .i64 0) := by rw [hR2.cell]; rfl
 have c1 : w2.cell? ⟨w.heap.size, 1, none⟩ = some (.slice none 0 0) := by rw [hR2.cell]; rfl
 have c2 : w2.cell? ⟨w.heap.size, 2, none⟩ = some (.slice none 0 0) := by rw [hR2.cell]; rfl
 have f0 := hR2.free 0
 have f1 := hR2.free 1
 have f2 := hR2.free 2
 have hf : Far A (Z.map I64) w.heap.size := hown.far (by simp)
 have hcap := hown.form
 have hrd := hown.rd'
 clear k hR
 go_wp2_with fail
 have hb1 := stepB ((Below.refl _ w).alloc (Nat.le_refl _) _) hb
 refine bodyPost_ret (v := .tuple #[.agg #[.int .i64 dev, .slice A Z.length c, .slice none 0 0], .int .i64 0]) (by simp [results, Tryz.results14, go_sem, c0, c1, c2]) rfl ⟨A, c, none, 0, [], rfl, ?_, ?_, OpsRd.nil _ _, rfl, Nat.le_refl _, ?_, hown.fromB (by simp), From.nil _ _⟩
 ·exact ((hrd.set hf 0 _).set hf 1 _).set hf 2 _
 ·obtain ⟨A1, c1, e1, h1, -⟩ := hcap; cases e1; exact h1
 ·exact ((hb1.setCell (p := ⟨w.heap.size, 0, none⟩) (Nat.le_refl _) _).setCell (p := ⟨w.heap.size, 1, none⟩) (Nat.le_refl _) _).setCell (p := ⟨w.heap.size, 2, none⟩) (Nat.le_refl _) _
set_option maxHeartbeats 2000000 in
theorem new_no (w : World) (dev : Int) (h1 : ¬ (1 ≤ dev ∧ dev ≤ 15)) : Calls Tryz.prog 14 #[.int .i64 dev] w (RetRep 0 [] [] 1 w) := by
 have hR := Blk.new w 27 #[.int .i64 0, .slice none 0 0, .slice none 0 0]
 have fin : RetRep 0 [] [] 1 w (.returned (.tuple #[.agg #[.int .i64 0, .slice none 0 0, .slice none 0 0], .int .i64 1])) (w.alloc (.cells #[.int .i64 0, .slice none 0 0, .slice none 0 0] 27)) :=
  ⟨none, 0, none, 0, [], rfl, Rd.nil _ _, Nat.le_refl _, OpsRd.nil _ _, rfl, Nat.le_refl _, (Below.refl _ w).alloc (Nat.le_refl _) _, From.nil _ _, From.nil _ _⟩
 have c0 : (w.alloc (.cells #[.int .i64 0, .slice none 0 0, .slice none 0 0] 27)).cell? ⟨w.heap.size, 0, none⟩ = some (.int .i64 0) := by rw [hR.cell]; rfl
 have c1 : (w.alloc (.cells #[.int .i64 0, .slice none 0 0, .slice none 0 0] 27)).cell? ⟨w.heap.size, 1, none⟩ = some (.slice none 0 0) := by rw [hR.cell]; rfl
 have c2 : (w.alloc (.cells #[.int .i64 0, .slice none 0 0, .slice none 0 0] 27)).cell? ⟨w.heap.size, 2, none⟩ = some (.slice none 0 0) := by rw [hR.cell]; rfl
 have f0 := hR.free 0
 have f1 := hR.free 1
 have f2 := hR.free 2
 by_cases h : dev < 1
 ·have t1 : decide (dev < 1) = true := decide_eq_true h
  clear h1 h
  go_enter Tryz.func14, Tryz.ntmps14
  go_wp2_with fail
  exact bodyPost_ret (v := .tuple #[.agg #[.int .i64 0, .slice none 0 0, .slice none 0 0], .int .i64 1]) (by simp [results, Tryz.results14, go_sem, c0, c1, c2]) rfl fin
 ·have t1 : decide (dev < 1) = false := decide_eq_false h
  have t2 : decide (15 < dev) = true := decide_eq_true (by omega)
  clear h1 h
  go_enter Tryz.func14, Tryz.ntmps14
  go_wp2_with fail
  exact bodyPost_ret (v := .tuple #[.agg #[.int .i64 0, .slice none 0 0, .slice none 0 0], .int .i64 1]) (by simp [results, Tryz.results14, go_sem, c0, c1, c2]) rfl fin
def EqRelI (w : World) (l m : List Int) (vi : Value) (wr : World) : Prop := ∃ k : Nat, k ≤ l.length ∧ vi = .int .i64 k ∧ Hid (l.take k = m.take k) ∧ Up w wr
theorem take_nextI {l m : List Int} {k : Nat} (h : l.take k = m.take k) (hl : k < l.length) (hm : k < m.length) (e : l[k] = m[k]) : l.take (k + 1) = m.take (k + 1) := by
 rw [List.take_succ_eq_append_getElem hl, List.take_succ_eq_append_getElem hm, h, e]
theorem ne_atI {l m : List Int} {k : Nat} (hl : k < l.length) (hm : k < m.length) (e : l[k] ≠ m[k]) : (l == m) = false := by
 rw [beq_eq_false_iff_ne]; rintro rfl; exact e rfl
theorem take_allI {l m : List Int} (h : l.take l.length = m.take l.length) (hm : m.length = l.length) : l = m := by
 rw [List.take_length, ← hm, List.take_length] at h; exact h
set_option maxRecDepth 100000 in
set_option maxHeartbeats 4000000 in
theorem sequalI_any (w : World) (A B : Option Addr) (l m : List Int) (c d : Nat) (hA : Rd w A (l.map I64)) (hB : Rd w B (m.map I64)) (hl : l.length ≤ maxLen) (hm : m.length ≤ maxLen) :
 Calls Tryz.prog 50 #[.slice A l.length c, .slice B m.length d] w (RetBool (l == m) w) := by
 unfold maxLen at hl hm
 by_cases h0 : m.length = l.length
 ·have HL := Lib.hid h0
  rw [h0] at hm ⊢
  clear h0
  go_enter Tryz.func50, Tryz.ntmps50
  go_wp2_with fail
  go_loopw [13] (EqRelI w l m) (fun i _ => l.length - (intOf i).toNat)
  case atStart => exact ⟨0, by omega, rfl, rfl, Up.refl _⟩
  case round =>
   obtain ⟨k, hk, rfl, hK, hu⟩ := hrel
   by_cases hlt : k < l.length
   ·have t1 : decide ((k : Int) < (l.length : Int)) = true := decide_eq_true (by omega)
    have t2 : (k : Int) < (l.length : Int) := by omega
    have t3 : 0 ≤ (k : Int) := by omega
    have hkm : k < m.length := by have := HL.out; omega
    obtain ⟨b, off, rfl, -, hc⟩ := (hu.rd hA).at64 hlt
    obtain ⟨b', off', rfl, -, hc'⟩ := (hu.rd hB).at64 hkm
    have HN := Lib.hid (fun e => take_nextI (l := l) (m := m) hK.out hlt hkm e)
    have HX := Lib.hid (fun e => ne_atI (l := l) (m := m) hlt hkm e)
    generalize l[k] = p at *
    generalize m[k] = q at *
    by_cases he : p = q
    ·have HN := Lib.hid (HN.out he)
     have q0 : (p != q) = false := by simp [he]
     have q1 : (p == q) = true := by simp [he]
     clear he HX hkm
     go_wp2_with fail
     go_quiet (fail)
     go_wp2_with fail
     go_roundw
     case rel => exact ⟨k + 1, by omega, by go_num, HN, hu.trans (Up.of (below_drewN (Below.refl _ _) _))⟩
     case measure => simp [intOf]; omega
    ·have HX := Lib.hid (HX.out he)
     have q0 : (p != q) = true := by simp [he]
     have q1 : (p == q) = false := by simp [he]
     clear he HN hkm
     go_wp2_with fail
     go_quiet (fail)
     go_wp2_with fail
     go_ret
     exact ⟨by rw [HX.out]; rfl, below_drewN hu.b _⟩
   ·obtain rfl : k = l.length := by omega
    have t1 : decide ((l.length : Int) < (l.length : Int)) = false := by simp
    have HX : Hid ((l == m) = true) := beq_iff_eq.2 (take_allI hK.out HL.out)
    go_wp2_with fail
    go_ret
    exact ⟨by rw [HX.out]; rfl, hu.b⟩
 ·have HX : Hid ((l == m) = false) := by rw [Hid, beq_eq_false_iff_ne]; rintro rfl; exact h0 rfl
  have q0 : ((l.length : Int) != (m.length : Int)) = true := by simp; omega
  have q1 : (l.length != m.length) = true := by simp; omega
  have q2 : ((l.length : Int) == (m.length : Int)) = false := by simp; omega
  have q3 : (l.length == m.length) = false := by simp; omega
  clear h0
  go_enter Tryz.func50, Tryz.ntmps50
  go_wp2_with fail
  go_ret
  exact ⟨by rw [HX.out]; rfl, Below.refl _ _⟩
set_option maxRecDepth 100000 in
set_option maxHeartbeats 4000000 in
theorem example_any (w : World) : Calls Tryz.prog 9 #[] w fun e w' => e = .returned (opV exJ none 0) ∧ Below w.heap.size w w' := by
 unfold opV opC
 dsimp only [exJ]
 go_enter Tryz.func9, Tryz.ntmps9
 go_wp2_with fail
 exact bodyPost_ret (v := .agg #[.int .i64 1, .int .i64 2, .int .i64 0, .int .i64 3, .int .i64 18, .int .i64 0, .int .i64 0, .int .i64 0, .int .i64 9, .int .i64 0, .string ⟨#[98, 97]⟩, .int .i64 0, .int .i64 0, .string ⟨#[]⟩, .slice none 0 0]) (by simp [results, Tryz.results9, go_sem]) rfl ⟨rfl, (Below.refl _ w).alloc (Nat.le_refl _) _⟩
end Go.Proofs.YtcomeidcmcegfaaGreatDoor
