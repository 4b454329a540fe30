/-
  The walks of Read and Trim of the reference of layer 53, and of Trim. Conditions: fewer than a thousand million bytes; for Trim utf8's tables lie as their initialisers lay them.
  The walks of Trim of layer 53 and of the reference. Conditions: fewer than a thousand million bytes; for the code utf8's tables lie as their initialisers lay them.
-/
import Derived.Test.YtcomeidcmcegfaaGreatDoorZM
import Derived.Test.YtcomeidcmcegfaaGreatDoorZR
import Derived.Test.YtcomeidcmcegfaaGreatDoorZAA
namespace Go.Proofs.YtcomeidcmcegfaaGreatDoor
open Go.RowKit Go.Shelf
set_option linter.unusedVariables false
set_option linter.unusedSimpArgs false
attribute [local go_sem] Oper.semAt_some
def RrRel (w : World) (b : List UInt8) (vo va : Value) (wr : World) : Prop :=
 ∃ (q : Int) (xs : List OX) (A : Option Addr) (c : Nat), va = .int .i64 q ∧ vo = .slice A xs.length c ∧ 0 ≤ q ∧ q ≤ b.length ∧ xs.length ≤ q ∧ wr.ownsRow w.heap.size 43 15 (.slice A xs.length c) xs.length (opsC xs) ∧ (∀ x ∈ xs, x.OkS wr) ∧ Below w.heap.size w wr ∧
  Hid ((jr b).1.map (·.2) = opL xs ++ (jrF b (b.length + 1) q).1.map (·.2)) ∧ Hid ((jr b).2 = (jrF b (b.length + 1) q).2)
theorem RdS.kept {n0 : Nat} {w w' : World} {row : Option Nat} {A : Option Addr} {l : List Value} (h : RdS w A l) (hg : w.grownBy w' row) (hn : ∀ g, row = some g → ∃ cs fr, w.heap[g]? = some (.cells cs 43 fr)) : RdS w' A l := by
 intro hl
 obtain ⟨g, cs, e, hb, hc⟩ := h hl
 refine ⟨g, cs, e, ?_, hc⟩
 rw [hg.block g (Array.getElem?_eq_some_iff.1 hb).1 ?_]
 ·exact hb
 ·intro e'
  obtain ⟨cs', fr, h'⟩ := hn g e'.symm
  rw [hb] at h'
  injection h' with h'
  injection h' with _ h' _
  exact absurd h' (by decide)
theorem ownsRow_ty {w : World} {base n : Nat} {A : Option Addr} {c m : Nat} {xs : List Value} (h : w.ownsRow base 43 15 (.slice A m c) n xs) : ∀ g, (Value.slice A m c).ownBlock = some g → ∃ cs fr, w.heap[g]? = some (.cells cs 43 fr) := by
 intro g hg
 rcases h.2 with ⟨e, _⟩ | ⟨g', cap, cur, e, _, hb, _⟩
 ·injection e with e1 e2 e3
  subst e1
  simp [Value.ownBlock] at hg
 ·injection e with e1 e2 e3
  subst e1
  obtain rfl : g' = g := by simpa [Value.ownBlock] using hg
  exact ⟨_, _, hb⟩
theorem heap_alloc2 (w : World) (o1 o2 : Obj) : ((w.alloc o1).alloc o2).heap[w.heap.size + 1]? = some o2 := by have := heap_alloc_new (w.alloc o1) o2; rwa [World.size_alloc] at this
theorem ownsRow_below {w w' : World} {base e size n : Nat} {v : Value} {xs : List Value} {B : Nat} (h : w.ownsRow base e size v n xs) (hb : Below w.heap.size w w') : w'.ownsRow base e size v n xs := by
 refine ⟨h.1, ?_⟩
 rcases h.2 with h0 | ⟨g, cap, cur, hv, hbg, hg, r⟩
 ·exact .inl h0
 ·refine .inr ⟨g, cap, cur, hv, hbg, ?_, r⟩
  rw [hb.block g ?_, hg]
  rcases Nat.lt_or_ge g w.heap.size with hlt | hge
  ·exact hlt
  ·rw [Array.getElem?_eq_none hge] at hg; cases hg
set_option maxRecDepth 100000 in
set_option maxHeartbeats 8000000 in
theorem rread_any (w : World) (A : Option Addr) (c : Nat) (b : List UInt8) (hr : Rd w A (b.map U8)) (hl : b.length ≤ 1000000000) (hlc : b.length ≤ c) : Calls Tryz.prog 17 #[.slice A b.length c] w (RetJr b w) := by
 obtain ⟨i0, hi, hz0, hz1, hz2⟩ := info_parts info_op
 go_enter Tryz.func17, Tryz.ntmps17
 go_wp2_with fail
 go_loopw [4, 5] (RrRel w b) (fun _ i _ => b.length + 1 - (intOf i).toNat)
 case atStart =>
  refine ⟨0, [], none, 0, rfl, rfl, Int.le_refl _, by omega, by simp, World.ownsRow_nil _ _ _ _, (by intro y hy; cases hy), Below.refl _ _, ?_, ?_⟩
  ·rw [Hid]; rfl
  ·rw [Hid]; rfl
 case round =>
  obtain ⟨q, xs, Ao, co, rfl, rfl, hq0, hq1, hpq, hrow, hok, hbe, hK, hE⟩ := hrel
  have hbs := hbe.size
  have kO := ropen_any wr A c b hlc (hr.below hbe) hl q (by omega) (by omega)
  have kF := fun w' A' c' (h : Rd w' A' ((frC b q).map U8)) (hc' : (frC b q).length ≤ c') => rfrom_anyW w' A' c' (frC b q) h (frC_len b q hl) hc'
  have hbd := fR_bdJ (frC b q) (frC_len b q hl)
  unfold RetOpen at kO
  have fin : jrB b q = false → ∀ w', Below wr.heap.size wr w' → RetJr b w (.returned (.tuple #[.slice Ao xs.length co, .int .i64 q])) w' := fun hf w' hb' => by
   have hrow' : Own w' w.heap.size 43 15 (.slice Ao xs.length co) xs.length (opsC xs) := Own.below (B := 0) (.inl hrow) hb'
   obtain ⟨A2, c2, e2, hc2, hrd⟩ := hrow'.rd
   cases e2
   refine ⟨xs, Ao, co, by rw [hE.out, jrF_no hf], by rw [hK.out, jrF_no hf]; simp, ⟨hrd, fun x hx => ((hok x hx).kp (KpJ.up hb' (Nat.le_refl _))).ok⟩, hc2, stepB hbe hb'⟩
  have fin := Lib.hid fin
  have HJ : Hid (jrB b q = (frE b q == 0 && (frK b q == 1 && fE (frC b q) == 0))) := rfl
  by_cases e0 : frE b q = 0
  rotate_left
  ·have t1 : (frE b q != 0) = true := by simpa using e0
   have hf : jrB b q = false := by rw [HJ.out, show (frE b q == 0) = false by simpa using e0]; rfl
   have fin := Lib.hid (fin.out hf)
   clear e0 hf HJ kF hbd
   generalize frE b q = E at *
   go_wp2_with fail
   refine kO.mono ?_
   rintro e w4 ⟨A4, c4, rfl, hr4, hc4, hb4⟩
   go_wp2_with fail
   exact bodyPost_ret (v := .tuple #[.slice Ao xs.length co, .int .i64 q]) (by simp [results, Tryz.results17, go_sem]) rfl (fin.out _ hb4)
  ·rw [e0] at kO
   by_cases e1 : frK b q = 1
   rotate_left
   ·have t1 : (frK b q != 1) = true := by simpa using e1
    have hf : jrB b q = false := by rw [HJ.out, show (frK b q == 1) = false by simpa using e1]; simp
    have fin := Lib.hid (fin.out hf)
    clear e0 e1 hf HJ kF hbd
    generalize frK b q = E at *
    go_wp2_with fail
    refine kO.mono ?_
    rintro e w4 ⟨A4, c4, rfl, hr4, hc4, hb4⟩
    go_wp2_with fail
    exact bodyPost_ret (v := .tuple #[.slice Ao xs.length co, .int .i64 q]) (by simp [results, Tryz.results17, go_sem]) rfl (fin.out _ hb4)
   ·rw [e1] at kO
    by_cases e2 : fE (frC b q) = 0
    rotate_left
    ·have t1 : (fE (frC b q) != 0) = true := by simpa using e2
     have hf : jrB b q = false := by rw [HJ.out, show (fE (frC b q) == 0) = false by simpa using e2]; simp
     have fin := Lib.hid (fin.out hf)
     clear e0 e1 e2 hf HJ hbd
     generalize fR (frC b q) = o at *
     generalize fE (frC b q) = E at *
     generalize frC b q = L at *
     unfold RetOpW opV opC at kF
     go_wp2_with fail
     refine kO.mono ?_
     rintro e w4 ⟨A4, c4, rfl, hr4, hc4, hb4⟩
     go_wp2_with fail
     refine (kF _ _ _ hr4 hc4).mono ?_
     rintro e w5 ⟨A5, c5, rfl, hown5, hb5⟩
     go_wp2_with fail
     exact bodyPost_ret (v := .tuple #[.slice Ao xs.length co, .int .i64 q]) (by simp [results, Tryz.results17, go_sem]) rfl (fin.out _ (stepB hb4 (stepB hb5 ((Below.refl _ _).alloc (Nat.le_refl _) _))))
    ·have hf : jrB b q = true := by rw [HJ.out, e0, e1, e2]; rfl
     have HN := Lib.hid (jrF_yes (b := b) (f := b.length) (q := q) (by omega) hf)
     obtain ⟨_, _, _, _, q7, q8⟩ := jrB_next hf
     rw [e2] at kF
     clear fin e0 e1 e2 hf HJ
     generalize fR (frC b q) = o at *
     generalize frT b q = T at *
     generalize frC b q = L at *
     unfold RetOpW opV opC at kF
     go_wp2_with fail
     refine kO.mono ?_
     rintro e w4 ⟨A4, c4, rfl, hr4, hc4, hb4⟩
     go_wp2_with fail
     refine (kF _ _ _ hr4 hc4).mono ?_
     rintro e w5 ⟨A5, c5, rfl, hown5, hb5⟩
     obtain ⟨_, _, e5, hc5, -⟩ := hown5.rd
     cases e5
     have hR5 := hown5.rdS
     have hb6 : Below wr.heap.size wr (w5.alloc (.cells (opC o A5 c5).toArray 43)) := stepB hb4 (stepB hb5 ((Below.refl _ _).alloc (Nat.le_refl _) _))
     obtain ⟨⟨m0, m1, m2, m3⟩, ⟨m4, m5, m6, m7, m8, m9, m10⟩, ⟨m11, m12, m13, m14⟩⟩ := blk_opAtJ (heap_alloc_new w5 (.cells (opC o A5 c5).toArray 43) : Blk _ _ 43 (opC o A5 c5).toArray)
     have hrow6 : (w5.alloc (.cells (opC o A5 c5).toArray 43)).ownsRow w.heap.size 43 15 (.slice Ao xs.length co) xs.length (opsC xs) := by
      exact ownsRow_below (B := 0) hrow hb6
     clear kF kO
     have hk6 : KpJ w.heap.size wr (w5.alloc (.cells (opC o A5 c5).toArray 43)) := KpJ.up hb6 hbs
     have hR6 := (KpJ.up (n0 := 0) ((Below.refl w5.heap.size w5).alloc (Nat.le_refl _) (.cells (opC o A5 c5).toArray 43)) (Nat.zero_le _)).rdS hR5
     dsimp only [opC] at m0 m1 m2 m3 m4 m5 m6 m7 m8 m9 m10 m11 m12 m13 m14
     go_wp2_with (first
      | (at_builtin
         go_loud (refine wpList_append_own _ rfl (.tmp 37) (.tmp 39) 25 rfl w.heap.size 43 i0 _ 15 152 Tryz.underlying25 hi hz0 hz1 hz2 rfl (by decide) _ _ _ rfl (hrow6.alloc _) ⟨w5.heap.size + 1, 0, none⟩ 1 1 (opC o A5 c5) rfl rfl (fun j u hu => by rw [add_plain, Nat.zero_add, cell_of_row _ _ _ _ _ _ (heap_alloc2 _ _ _)]; simpa [opC] using hu) (fun u hu => by have := List.all_eq_true.1 (show (opC o A5 c5).all (·.oneCell') = true by simp [opC, Value.oneCell']) u hu; exact this) (by unfold maxLen; omega) (by omega) (by have := hb6.size; simp at this ⊢; omega) ?_)
         intro v' w7 hown7 hg7 _
         obtain ⟨g', cap', rfl⟩ := ownsRow_succ hown7)
      | fail)
     have hge : ∀ k, (Value.slice Ao xs.length co).ownBlock = some k → w.heap.size ≤ k := fun k hk => (hrow6.lt k hk).1
     go_wp2_with fail
     go_roundw
     case rel =>
      refine ⟨T, xs ++ [⟨o, A5, c5⟩], some ⟨g', 0, none⟩, cap', rfl, by rw [List.length_append]; rfl, by omega, q8, by rw [List.length_append]; simp; omega, ?_, ?_, ?_, ?_, ?_⟩
      ·have e1 : opsC (xs ++ [(⟨o, A5, c5⟩ : OX)]) = opsC xs ++ opC o A5 c5 := by simp [opsC, OX.cs]
       rw [e1, List.length_append]
       exact hown7
      ·have hkr : ∀ (A' : Option Addr) (l' : List Value) (n0 : Nat), RdS (w5.alloc (.cells (opC o A5 c5).toArray 43)) A' l' → RdS w7 A' l' := fun A' l' n0 hx =>
        RdS.kept (n0 := 0) ((KpJ.up (n0 := 0) ((Below.refl (w5.alloc (.cells (opC o A5 c5).toArray 43)).heap.size _).alloc (Nat.le_refl _) (.cells (opC o A5 c5).toArray 43)) (Nat.zero_le _)).rdS hx) hg7 (ownsRow_ty (ownsRow_below (B := 0) hrow6 ((Below.refl _ _).alloc (Nat.le_refl _) _)))
       intro x hx
       rcases List.mem_append.1 hx with hx | hx
       ·have h1 := (hok x hx).kp hk6
        exact ⟨h1.bd, hkr _ _ 0 h1.rd, h1.cap⟩
       ·rw [List.mem_singleton.1 hx]; exact ⟨hbd, hkr _ _ 0 hR6, hc5⟩
      ·have hs6 := hb6.size
       exact (hbe.trans (hb6.mono hbs)).trans (((Below.refl w.heap.size (w5.alloc (.cells (opC o A5 c5).toArray 43))).alloc (by omega) _).grown hg7 (by rw [World.size_alloc]; omega) hge)
      ·rw [Hid, hK.out, HN.out]; simp [opL]
      ·rw [Hid, hE.out, HN.out]
     case measure => simp [intOf]; omega
end Go.Proofs.YtcomeidcmcegfaaGreatDoor
namespace Go.Proofs.YtcomeidcmcegfaaGreatDoor
open Go.RowKit
set_option linter.unusedVariables false
set_option linter.unusedSimpArgs false
theorem jrF_le (b : List UInt8) : ∀ (f : Nat) (q : Int), 0 ≤ q → q ≤ b.length → 0 ≤ (jrF b f q).2 ∧ (jrF b f q).2 ≤ b.length := by
 intro f
 induction f with
 | zero => intro q h0 h1; exact ⟨h0, h1⟩
 | succ f ih =>
  intro q h0 h1
  rw [jrF]
  split
  ·rename_i h
   have := jrB_next h
   exact ih (frT b q) (by omega) (by omega)
  ·exact ⟨h0, h1⟩
theorem jr_le (b : List UInt8) : 0 ≤ (jr b).2 ∧ (jr b).2 ≤ b.length := jrF_le b _ 0 (Int.le_refl _) (by omega)
def trimN (b : List UInt8) : Nat := (jr b).2.toNat
theorem trimN_eq (b : List UInt8) : (jr b).2 = (trimN b : Int) := by have := jr_le b; unfold trimN; omega
theorem trimN_le (b : List UInt8) : trimN b ≤ b.length := by have := jr_le b; unfold trimN; omega
theorem slice_to3 (A : Option Addr) (c n : Nat) (hc : n ≤ c) (h : Int) (k : Nat) (e : h = (k : Int)) (hk : k ≤ n) (w' : World) :
 (Instr.slice 22 (.slice A n c) none (some (.int .i64 h)) (some (.int .i64 h))).run Tryz.prog w' = .ok (.slice A k k) w' := by
 subst e
 have hel : Tryz.prog.elem 22 = 5 := by kernel_rfl
 have h1 := run_slice_hm (P := Tryz.prog) (w := w') 22 A n c (by rw [hel]; exact Tryz.underlying22) .i64 .i64 (k : Int) (k : Int) (by omega) (by omega) (by omega)
 have hsz : (sizeOf (Tryz.prog.elem 22)).run Tryz.prog w' = .ok 1 w' := by
  rw [hel]
  obtain ⟨i0, hi0, hz0, hz1, hz2⟩ := info_parts info_u8
  simp [sizeOf, typeInfo, hi0, hz1]
 rw [hsz] at h1
 simp only [Result.andThen_ok, sliced, Int.toNat_natCast, Nat.zero_mul, Nat.sub_zero] at h1
 rw [h1]
 by_cases h0 : k = 0
 ·rw [if_pos h0]
 ·rw [if_neg h0]
  rcases A with _ | a
  ·rfl
  ·show Result.ok (Value.slice (some (a.add 0)) k k) w' = _
   rw [addr_add0]
def RetTrim (A : Option Addr) (b : List UInt8) (w : World) (e : Ending) (w' : World) : Prop := ∃ c, e = .returned (.slice A (trimN b) c) ∧ trimN b ≤ c ∧ Below w.heap.size w w'
set_option maxHeartbeats 2000000 in
theorem trim_any (w : World) (A : Option Addr) (c : Nat) (b : List UInt8) (hr : Rd w A (b.map U8)) (hl : b.length ≤ 1000000000) (hlc : b.length ≤ c) (hT : Tabs w) : Calls Tryz.prog 13 #[.slice A b.length c] w (RetTrim A b w) := by
 have k := read_any w A c b hr hl hlc hT
 have sl := slice_to3 A c b.length hlc (trimN b : Int) (trimN b) rfl (trimN_le b)
 unfold RetJr at k
 rw [trimN_eq b] at k
 unfold RetTrim
 generalize trimN b = n at *
 go_enter Tryz.func13, Tryz.ntmps13
 go_wp2_with fail
 refine k.mono ?_
 rintro e w1 ⟨xs, A1, c1, rfl, -, -, -, hb⟩
 clear k
 go_wp2_with fail
 go_ret
 exact ⟨n, rfl, Nat.le_refl _, hb⟩
end Go.Proofs.YtcomeidcmcegfaaGreatDoor
