/-
  The walk of the statement FrameCuts. Conditions: the arguments read as their types say.
-/
import Derived.Test.YthjmdfimnbmbfaaFrameLaws3
import Derived.Test.YthjmdfimnbmbfaaFrameCutMath
import Derived.Test.YthjmdfimnbmbfaaOpenS
import Derived.Test.YthjmdfimnbmbfaaSliceTo
namespace Go.Proofs.Ythjmdfimnbmbfaa
open Go.RowKit
set_option linter.unusedVariables false

/-- a part: kind, address, bytes, capacity -/
structure PT where
  k : Int
  A : Option Addr
  C : List UInt8
  c : Nat
def PTv (p : PT) : List Value := [.int .i64 p.k, .slice p.A p.C.length p.c]
def PT.ct (p : PT) : CT := ⟨p.A, p.C, p.c⟩
def PT.kc (p : PT) : Int × List UInt8 := (p.k, p.C)
theorem PTv_len (p : PT) : (PTv p).length = 2 := rfl
/-- a part that reads in W -/
def PT.Ok (W : World) (p : PT) : Prop := (-9223372036854775808 ≤ p.k ∧ p.k ≤ 9223372036854775807) ∧ Rd W p.A (p.C.map U8) ∧ p.C.length ≤ maxLen ∧ p.C.length ≤ p.c

theorem flat_at {α : Type} (f : α → List Value) (s : Nat) (hf : ∀ a, (f a).length = s) : ∀ (l : List α) (i : Nat) (a : α) (j : Nat), l[i]? = some a → j < s → (l.flatMap f)[i * s + j]? = (f a)[j]? := by
  intro l
  induction l with
  | nil => intro i a j h; simp at h
  | cons b l ih =>
    intro i a j h hj
    rw [List.flatMap_cons]
    rcases i with _ | i
    · simp at h
      subst h
      rw [Nat.zero_mul, Nat.zero_add, List.getElem?_append_left (by rw [hf]; exact hj)]
    · rw [List.getElem?_append_right (by rw [hf, Nat.add_mul]; omega), hf, show (i + 1) * s + j - s = i * s + j by rw [Nat.add_mul]; omega]
      exact ih i a j (by simpa using h) hj
theorem part_cells {w : World} {A : Option Addr} {ps : List PT} (h : Rd w A (ps.flatMap PTv)) {j : Nat} (hj : j < ps.length) :
    ∃ b off, A = some ⟨b, off, none⟩ ∧ w.cell? ⟨b, off + j * 2, none⟩ = some (.int .i64 ps[j].k) ∧ w.cell? ⟨b, off + j * 2 + 1, none⟩ = some (.slice ps[j].A ps[j].C.length ps[j].c) := by
  have h0 := flat_at PTv 2 PTv_len ps j ps[j] 0 (by simp [hj]) (by omega)
  have h1 := flat_at PTv 2 PTv_len ps j ps[j] 1 (by simp [hj]) (by omega)
  obtain ⟨b, off, e, hb, hc⟩ := h (by intro e; rw [e] at h0; simp [PTv] at h0)
  refine ⟨b, off, e, ?_, ?_⟩
  · exact hc (j * 2) _ (by rw [Nat.add_zero] at h0; rw [h0]; rfl)
  · have := hc (j * 2 + 1) _ (by rw [h1]; rfl)
    rw [← Nat.add_assoc] at this; exact this

theorem Sep.symm {u v : Value} (h : Sep u v) : Sep v u := fun k h1 h2 => h k h2 h1
theorem Own.other {w w' : World} {base base' : Nat} {e : TypeId} {size n : Nat} {v v2 u : Value} {xs : List Value} (h : Own w base e size u n xs) (g : Gr base' v w v2 w') (s : Sep v u) : Own w' base e size u n xs := by
  refine h.kept g.gb ?_
  rcases hv : u.ownBlock with _ | k
  · exact .inl rfl
  · exact .inr fun e => s k e.symm hv
theorem Sep.grow {w w' : World} {base base' : Nat} {e : TypeId} {size n : Nat} {v v2 u : Value} {xs : List Value} (s : Sep v u) (g : Gr base' v w v2 w') (h : Own w base e size u n xs) : Sep v2 u := by
  intro k hk hc
  rcases g.fr k hk with h1 | h1
  · exact s k h1 hc
  · have := (h.lt k hc).2
    omega
structure Tri (base : Nat) (w : World) (vk vc va : Value) (ks : List Int) (xs : List CT) (L : List UInt8) : Prop where
  ok : Own w base 3 1 vk ks.length (ks.map I64)
  oc : Own w base 22 1 vc xs.length (xs.map CTv)
  oa : Own w base 5 1 va L.length (L.map U8)
  s1 : Sep vk vc
  s2 : Sep vk va
  s3 : Sep vc va
section
variable {base : Nat} {w w' : World} {vk vc va v' : Value} {ks ks' : List Int} {xs xs' : List CT} {L L' : List UInt8}
theorem Tri.up (h : Tri base w vk vc va ks xs L) (hb : Below w.heap.size w w') : Tri base w' vk vc va ks xs L :=
  ⟨h.ok.below (B := 0) hb, h.oc.below (B := 0) hb, h.oa.below (B := 0) hb, h.s1, h.s2, h.s3⟩
theorem Tri.alloc (h : Tri base w vk vc va ks xs L) (o : Obj) : Tri base (w.alloc o) vk vc va ks xs L := h.up ((Below.refl _ _).alloc (Nat.le_refl _) o)
theorem Tri.k (h : Tri base w vk vc va ks xs L) (ho : Own w' base 3 1 v' ks'.length (ks'.map I64)) (g : Gr base vk w v' w') : Tri base w' v' vc va ks' xs L :=
  ⟨ho, h.oc.other g h.s1, h.oa.other g h.s2, h.s1.grow g h.oc, h.s2.grow g h.oa, h.s3⟩
theorem Tri.c (h : Tri base w vk vc va ks xs L) (ho : Own w' base 22 1 v' xs'.length (xs'.map CTv)) (g : Gr base vc w v' w') : Tri base w' vk v' va ks xs' L :=
  ⟨h.ok.other g h.s1.symm, ho, h.oa.other g h.s3, (h.s1.symm.grow g h.ok).symm, h.s2, h.s3.grow g h.oa⟩
theorem Tri.a (h : Tri base w vk vc va ks xs L) (ho : Own w' base 5 1 v' L'.length (L'.map U8)) (g : Gr base va w v' w') : Tri base w' vk vc v' ks xs L' :=
  ⟨h.ok.other g h.s2.symm, h.oc.other g h.s3.symm, ho, h.s1, (h.s2.symm.grow g h.ok).symm, (h.s3.symm.grow g h.oc).symm⟩
end

/-- what the first j rounds have made -/
structure CutSt (ps : List PT) (cut : Nat) (j m : Nat) (ks : List Int) (xs : List CT) (L : List UInt8) (n : Int) : Prop where
  kept : Kept (ps.map PT.kc) cut j m
  good : ∀ p ∈ (ps.map PT.kc).take j, Good p
  ek : ks = ((ps.map PT.kc).take m).map (·.1)
  ec : xs = (ps.take m).map PT.ct
  ea : L = cat ((ps.map PT.kc).take j)
  en : n = (cat ((ps.map PT.kc).take m)).length
theorem take_next {α : Type} {l : List α} {j : Nat} {a : α} (h : l[j]? = some a) : l.take (j + 1) = l.take j ++ [a] := by
  rw [List.take_add_one, h]; rfl
section
variable {ps : List PT} {cut j m : Nat} {ks : List Int} {xs : List CT} {L : List UInt8} {n : Int} {K : Int} {B : Option Addr} {C : List UInt8} {d : Nat}
theorem CutSt.next (h : CutSt ps cut j m ks xs L n) (hp : ps[j]? = some ⟨K, B, C, d⟩) : (ps.map PT.kc).take (j + 1) = (ps.map PT.kc).take j ++ [(K, C)] := take_next (by rw [List.getElem?_map, hp]; rfl)
theorem CutSt.cat (h : CutSt ps cut j m ks xs L n) (hp : ps[j]? = some ⟨K, B, C, d⟩) : L ++ fseal K C = Go.Proofs.Ythjmdfimnbmbfaa.cat ((ps.map PT.kc).take (j + 1)) := by rw [h.next hp, cat_append, cat_one, h.ea]
theorem CutSt.good' (h : CutSt ps cut j m ks xs L n) (hp : ps[j]? = some ⟨K, B, C, d⟩) (hg : Good (K, C)) : ∀ p ∈ (ps.map PT.kc).take (j + 1), Good p := by
  rw [h.next hp]
  intro p hp
  rcases List.mem_append.1 hp with h1 | h1
  · exact h.good p h1
  · rw [List.mem_singleton.1 h1]; exact hg
theorem CutSt.yes (h : CutSt ps cut j m ks xs L n) (hp : ps[j]? = some ⟨K, B, C, d⟩) (hg : Good (K, C)) (hc : L.length + (fseal K C).length ≤ cut) : CutSt ps cut (j + 1) (j + 1) (ks ++ [K]) (xs ++ [⟨B, C, d⟩]) (L ++ fseal K C) ((L ++ fseal K C).length : Int) := by
  have e := h.cat hp
  obtain ⟨rfl, k2⟩ := h.kept.yes (by rw [← e, List.length_append]; exact hc)
  refine ⟨k2, h.good' hp hg, ?_, ?_, e, by rw [e]⟩
  · rw [h.next hp, List.map_append, ← h.ek]; rfl
  · rw [take_next hp, List.map_append, ← h.ec]; rfl
theorem CutSt.no (h : CutSt ps cut j m ks xs L n) (hp : ps[j]? = some ⟨K, B, C, d⟩) (hg : Good (K, C)) (hc : cut < L.length + (fseal K C).length) : CutSt ps cut (j + 1) m ks xs (L ++ fseal K C) n := by
  have e := h.cat hp
  exact ⟨h.kept.no (by rw [← e, List.length_append]; exact hc), h.good' hp hg, h.ek, h.ec, e, h.en⟩
theorem CutSt.start : CutSt ps cut 0 0 [] [] [] 0 := ⟨Kept.start _ _, by simp, by simp, by simp, by simp [cat_nil], by simp [cat_nil]⟩
theorem CutSt.size (h : CutSt ps cut j m ks xs L n) (hp : ps.length ≤ 20) (hj : j ≤ ps.length) : ks.length ≤ 20 ∧ xs.length ≤ 20 ∧ L.length ≤ 8000 ∧ (0 ≤ n ∧ n ≤ 8000) := by
  have h1 := cat_len _ h.good
  have h2 : ((ps.map PT.kc).take j).length ≤ 20 := by simp; omega
  have h3 := cat_mono (ps.map PT.kc) h.kept.1
  have h4 := h.en
  have h5 := h.kept.1
  rw [← h.ea] at h1
  refine ⟨?_, ?_, by omega, by omega, ?_⟩
  · rw [h.ek]; simp; omega
  · rw [h.ec]; simp; omega
  · rw [← h.ea] at h3; omega
theorem CutSt.fin (h : CutSt ps cut j m ks xs L n) (hj : j = ps.length) : allR (L.take cut) = ((ps.map PT.kc).take m, n) ∧ contents xs = ((ps.map PT.kc).take m).map (·.2) ∧ ks.length = xs.length := by
  subst hj
  have e : (ps.map PT.kc).take ps.length = ps.map PT.kc := List.take_of_length_le (by simp)
  have hg := h.good
  have ea := h.ea
  rw [e] at hg ea
  refine ⟨?_, ?_, ?_⟩
  · rw [ea, h.en]
    exact allR_cut _ hg m (by simpa using h.kept.1) cut h.kept.2.1 (by simpa using h.kept.2.2)
  · rw [h.ec, contents, List.map_map, ← List.map_take, List.map_map]; rfl
  · rw [h.ek, h.ec]; simp
end
def CutRel (w : World) (ps : List PT) (cut : Nat) (vk vc va ve vi : Value) (wr : World) : Prop :=
  ∃ (j m : Nat) (Ak : Option Addr) (ck : Nat) (Ac : Option Addr) (cc : Nat) (Aa : Option Addr) (ca : Nat) (ks : List Int) (xs : List CT) (L : List UInt8) (n : Int), vi = .int .i64 j ∧ ve = .int .i64 n ∧ vk = .slice Ak ks.length ck ∧ vc = .slice Ac xs.length cc ∧ va = .slice Aa L.length ca ∧
    j ≤ ps.length ∧ ks.length ≤ 20 ∧ xs.length ≤ 20 ∧ L.length ≤ 8000 ∧ (0 ≤ n ∧ n ≤ 8000) ∧ Tri w.heap.size wr (.slice Ak ks.length ck) (.slice Ac xs.length cc) (.slice Aa L.length ca) ks xs L ∧ CutSt ps cut j m ks xs L n ∧ Below w.heap.size w wr

set_option maxRecDepth 20000 in
set_option maxHeartbeats 8000000 in
theorem walk_FrameCuts (w : World) (A : Option Addr) (c : Nat) (ps : List PT) (h : Rd w A (ps.flatMap PTv)) (hl : ps.length ≤ maxLen) (hps : ∀ p ∈ ps, p.Ok w) (hlc : ps.length ≤ c) (n : Int) (lo : -9223372036854775808 ≤ n) (hi : n ≤ 9223372036854775807) :
    Calls Try.prog 10 #[.slice A ps.length c, .int .i64 n] w fun e w' => e = .returned (.bool true) ∧ Below w.heap.size w w' := by
  unfold maxLen at hl
  obtain ⟨i0, hi0, hz0, hz1, hz2⟩ := info_parts info_int
  obtain ⟨s0, hs0, hy0, hy1, hy2⟩ := info_parts info_sl
  obtain ⟨u0, hu0, hv0, hv1, hv2⟩ := info_parts info_u8
  by_cases hf : ps.length ≤ 20 ∧ 0 ≤ n
  · obtain ⟨hf, hn⟩ := hf
    obtain ⟨cut, rfl⟩ : ∃ a : Nat, n = a := ⟨n.toNat, by omega⟩
    have p0 : decide (20 < (ps.length : Int)) = false := by simp; omega
    have p1 : decide ((cut : Int) < 0) = false := by simp
    go_enter Try.func10, Try.ntmps10
    go_wp2
    go_loopw [5, 6, 7, 8, 9] (CutRel w ps cut) (fun _ _ _ _ i _ => ps.length + 1 - (intOf i).toNat)
    case atStart =>
      refine ⟨0, 0, some ⟨w.heap.size, 0, none⟩, 0, some ⟨w.heap.size + 1, 0, none⟩, 0, some ⟨w.heap.size + 1 + 1, 0, none⟩, 0, [], [], [], 0, rfl, rfl, rfl, rfl, rfl, by omega, by simp, by simp, by simp, ⟨by omega, by omega⟩, ⟨.inr ⟨rfl, rfl, _, rfl, Nat.le_refl _, by simp; omega⟩, .inr ⟨rfl, rfl, _, rfl, by simp, by simp⟩, .inr ⟨rfl, rfl, _, rfl, by simp; omega, by simp⟩, ?_, ?_, ?_⟩, CutSt.start, (((Below.refl _ _).alloc (Nat.le_refl _) _).alloc (by simp) _).alloc (by simp; omega) _⟩
      all_goals
        intro k hk hc
        simp only [Value.ownBlock, Option.some.injEq] at hk hc
        omega
    case round =>
      obtain ⟨j, m, Ak, ck, Ac, cc, Aa, ca, ks, xs, L, n, rfl, rfl, rfl, rfl, rfl, hj, hk20, hx20, hL, hn8, htri, hst, hb⟩ := hrel
      by_cases hlt : j < ps.length
      · have tl : decide ((j : Int) < (ps.length : Int)) = true := by simpa using hlt
        have Hst := Lib.hid hst
        clear hst
        have hpj := hps _ (List.getElem_mem hlt)
        have hcell := part_cells h hlt
        obtain ⟨b, off, rfl, hc0, hc1⟩ := hcell
        have hw0 := (Up.of hb).cell hc0
        have hw1 := (Up.of hb).cell hc1
        have HP : Hid (ps[j]? = some ps[j]) := by rw [Hid]; simp [hlt]
        generalize ps[j] = q at *
        obtain ⟨K, B, C, d⟩ := q
        clear hc0 hc1
        obtain ⟨⟨klo, khi⟩, hrC, hCm, hCd⟩ := hpj
        simp only at klo khi hrC hCm hCd hw0 hw1
        by_cases k1 : 1 ≤ K
        · have p2 : decide (K < 1) = false := by simp; omega
          by_cases k2 : K ≤ 255
          · have p3 : decide (255 < K) = false := by simp; omega
            by_cases k3 : C.length ≤ 300
            · have p4 : decide (300 < (C.length : Int)) = false := by simp; omega
              have hFl0 := fseal_length K C
              have hen := enc_length (C.length : Int)
              have kS : ∀ w' A' c', Rd w' A' (C.map U8) → Calls Try.prog 12 #[.int .i64 K, .slice A' C.length c'] w' (RetSeal (fseal K C) 0 w') := fun w' A' c' hr => seal_ok w' K k1 k2 A' c' C hr (by omega)
              have hFl : (fseal K C).length ≤ 400 := by omega
              have hG : Good (K, C) := ⟨k1, k2, k3⟩
              have HY := Lib.hid (fun hc => Hst.out.yes HP.out hG hc)
              have HN := Lib.hid (fun hc => Hst.out.no HP.out hG hc)
              clear Hst HP hen hFl0
              generalize fseal K C = F at *
              go_wp2_with fail
              obtain ⟨W1, hW1⟩ : ∃ x, wr.alloc (Obj.cells #[Value.int IntKind.i64 K, Value.slice B C.length d] 45) = x := ⟨_, rfl⟩
              have l0 : ∀ w', Up W1 w' → w'.cell? ⟨wr.heap.size, 0, none⟩ = some (.int .i64 K) := fun w' hu => hu.cell (by rw [← hW1, cell_of_row _ _ _ _ _ _ (heap_alloc_new wr _)]; rfl)
              have l1 : ∀ w', Up W1 w' → w'.cell? ⟨wr.heap.size, 1, none⟩ = some (.slice B C.length d) := fun w' hu => hu.cell (by rw [← hW1, cell_of_row _ _ _ _ _ _ (heap_alloc_new wr _)]; rfl)
              have hbW1 : Below w.heap.size w W1 := by rw [← hW1]; exact hb.alloc hb.size _
              have htri1 : Tri w.heap.size W1 (.slice Ak ks.length ck) (.slice Ac xs.length cc) (.slice Aa L.length ca) ks xs L := by rw [← hW1]; exact htri.alloc _
              have hneA : some wr.heap.size ≠ (Value.slice Aa L.length ca).ownBlock := fun e => absurd (htri.oa.lt _ e.symm).2 (by omega)
              have hneK : some wr.heap.size ≠ (Value.slice Ak ks.length ck).ownBlock := fun e => absurd (htri.ok.lt _ e.symm).2 (by omega)
              have hrC1 := hrC.below hbW1
              have HT := Lib.hid htri1
              simp only [hW1]
              have HW1 := Lib.hid hW1
              clear hW1 htri htri1
              refine wp_region_noPanic ?_
              refine wp_region_held_drew (S := fun w' => Up W1 w') (by kernel_rfl) (Up.drew W1) (fun hHeld => ?_)
              refine wpAnyH_take (i := 0) (v := ?_) rfl (by kernel_rfl) (by kernel_rfl) (by kernel_rfl) (fun _ _ _ h => h) (Or.inl ⟨by rfl, ?_⟩) (by assumption) ?_
              rotate_left
              · intro w' hSw; clear hSw; go_simp; try (with_reducible rfl)
              change wpAnyH _ _ _ _ _ _ _ (Act.put _ (some 53) _) _
              try (simp only [Act.put, List.setIfInBounds_toArray, List.set_cons_zero, List.set_cons_succ])
              refine wpAnyH_take (i := 1) (v := ?_) rfl (by kernel_rfl) (by kernel_rfl) (by kernel_rfl) (fun _ _ _ h => h) (Or.inl ⟨by rfl, ?_⟩) (by assumption) ?_
              rotate_left
              · intro w' hS0; go_simp; try (with_reducible rfl)
              change wpAnyH _ _ _ _ _ _ _ (Act.put _ (some 54) _) _
              try (simp only [Act.put, List.setIfInBounds_toArray, List.set_cons_zero, List.set_cons_succ])
              refine wpAnyH_take (i := 2) (v := ?_) rfl (by kernel_rfl) (by kernel_rfl) (by kernel_rfl) (fun _ _ _ h => h) (Or.inl ⟨by rfl, ?_⟩) (by assumption) ?_
              rotate_left
              · intro w' hSw; clear hSw; go_simp; try (with_reducible rfl)
              change wpAnyH _ _ _ _ _ _ _ (Act.put _ (some 55) _) _
              try (simp only [Act.put, List.setIfInBounds_toArray, List.set_cons_zero, List.set_cons_succ])
              refine wpAnyH_take (i := 3) (v := ?_) rfl (by kernel_rfl) (by kernel_rfl) (by kernel_rfl) (fun _ _ _ h => h) (Or.inl ⟨by rfl, ?_⟩) (by assumption) ?_
              rotate_left
              · intro w' hS0; go_simp; try (with_reducible rfl)
              change wpAnyH _ _ _ _ _ _ _ (Act.put _ (some 56) _) _
              try (simp only [Act.put, List.setIfInBounds_toArray, List.set_cons_zero, List.set_cons_succ])
              refine wpAnyH_ready (rs := [4]) (by kernel_rfl) (by simp) ?_
              refine AllReadyH.cons rfl (fun K hK => ?_) AllReadyH.nil
              go_simp
              refine (copied_any _ _ _ _ (Up.rd (by assumption) hrC1) (by omega)).mono ?_
              rintro e W2 ⟨A2, c2, rfl, hown2, hb2⟩
              have hr2 := hown2.rd'
              have u2 : Up W1 W2 := Up.trans (by assumption) (Up.of hb2)
              clear hown2 hb2
              refine hK.out _ _ u2 (fun hHeld => ?_)
              clear hK K hHeld
              refine wpAnyH_more (S' := fun w' => Up W2 w') (fun w' h => Up.trans u2 h) _ _ _ _ ?_
              have hHeld := Up.refl W2
              refine wpAnyH_ready (rs := [5]) (by kernel_rfl) (by simp) ?_
              refine AllReadyH.cons rfl (fun K hK => ?_) AllReadyH.nil
              go_simp
              refine (kS _ _ _ (Up.rd (by assumption) hr2)).mono ?_
              rintro e W3 ⟨A3, c3, rfl, hown3, hb3⟩
              have hr3 := hown3.rd'
              have u3 : Up W2 W3 := Up.trans (by assumption) (Up.of hb3)
              clear hown3 hb3
              refine hK.out _ _ u3 (fun hHeld => ?_)
              clear hK K hHeld
              refine wpAnyH_more (S' := fun w' => Up W3 w') (fun w' h => Up.trans u3 h) _ _ _ _ ?_
              have hHeld := Up.refl W3
              refine wpAnyH_take (i := 6) (v := ?_) rfl (by kernel_rfl) (by kernel_rfl) (by kernel_rfl) (fun _ _ _ h => h) (Or.inl ⟨by rfl, ?_⟩) (by assumption) ?_
              rotate_left
              · intro w' hSw; clear hSw; go_simp; try (with_reducible rfl)
              change wpAnyH _ _ _ _ _ _ _ (Act.put _ (some 52) _) _
              try (simp only [Act.put, List.setIfInBounds_toArray, List.set_cons_zero, List.set_cons_succ])
              refine wpAnyH_take (i := 7) (v := ?_) rfl (by kernel_rfl) (by kernel_rfl) (by kernel_rfl) (fun _ _ _ h => h) (Or.inl ⟨by rfl, ?_⟩) (by assumption) ?_
              rotate_left
              · intro w' hSw; clear hSw; go_simp; try (with_reducible rfl)
              change wpAnyH _ _ _ _ _ _ _ (Act.put _ (some 59) _) _
              try (simp only [Act.put, List.setIfInBounds_toArray, List.set_cons_zero, List.set_cons_succ])
              refine wpAnyH_take (i := 8) (v := ?_) rfl (by kernel_rfl) (by kernel_rfl) (by kernel_rfl) (fun _ _ _ h => h) (Or.inl ⟨by rfl, ?_⟩) (by assumption) ?_
              rotate_left
              · intro w' hSw; clear hSw; go_simp; try (with_reducible rfl)
              change wpAnyH _ _ _ _ _ _ _ (Act.put _ (some 60) _) _
              try (simp only [Act.put, List.setIfInBounds_toArray, List.set_cons_zero, List.set_cons_succ])
              refine wpAnyH_take (i := 9) (v := ?_) rfl (by kernel_rfl) (by kernel_rfl) (by kernel_rfl) (fun _ _ _ h => h) (Or.inl ⟨by rfl, ?_⟩) (by assumption) ?_
              rotate_left
              · intro w' hSw; clear hSw; go_simp; try (with_reducible rfl)
              change wpAnyH _ _ _ _ _ _ _ (Act.put _ (some 11) _) _
              try (simp only [Act.put, List.setIfInBounds_toArray, List.set_cons_zero, List.set_cons_succ])
              refine wpAnyH_take (i := 10) (v := ?_) rfl (by kernel_rfl) (by kernel_rfl) (by kernel_rfl) (fun _ _ _ h => h) (Or.inl ⟨by rfl, ?_⟩) (by assumption) ?_
              rotate_left
              · intro w' hSw; clear hSw; go_simp; try (with_reducible rfl)
              change wpAnyH _ _ _ _ _ _ _ (Act.put _ (some 12) _) _
              try (simp only [Act.put, List.setIfInBounds_toArray, List.set_cons_zero, List.set_cons_succ])
              refine wpAnyH_done (by kernel_rfl) ?_ _
              refine NoPanic.normal ?_
              clear hHeld
              have HT3 := Lib.hid (HT.out.up (u2.trans u3).b)
              have hb3 : Below w.heap.size w W3 := step_below hbW1 (u2.trans u3).b
              have m0 := l0 W3 (u2.trans u3)
              have m1 := l1 W3 (u2.trans u3)
              clear l0 l1 HT HW1 hbW1 hrC1 kS u2 u3
              have hA3 := Lib.hid (And.intro hr3 hb3.size)
              clear hr3
              by_cases hcut : L.length + F.length ≤ cut
              · have HY := Lib.hid (HY.out hcut)
                clear HN
                go_wp2_with (first
                  | (at_builtin
                     refine wpList_append_map _ U8 U8_one rfl (.tmp 63) (.tmp 64) _ rfl w.heap.size 5 u0 _ 1 Try.underlying22 hu0 hv0 hv1 hv2 rfl Aa ca L rfl HT3.out.oa A3 c3 F rfl hA3.out.1 (by simp only [maxLen]; omega) (by omega) hA3.out.2 ?_
                     intro A4 c4 L4 W4 e4 hown4 hr4 hg4 hb4 hat4
                     have HT4 := Lib.hid (HT3.out.a hown4 ⟨hg4, hat4, hb4⟩)
                     have hb4' := hb3.trans hb4
                     have m0 := hg4.cell m0 hneA
                     have m1 := hg4.cell m1 hneA
                     have q4 : L4.length ≤ cut := by rw [e4.out, List.length_append]; omega
                     have q4' : (L4.length : Int) ≤ (cut : Int) := by omega
                     clear hown4 hr4 hg4 hb4 hat4)
                  | (at_builtin
                     refine wpList_append_map _ I64 I64_one rfl (.tmp 72) (.tmp 75) _ rfl w.heap.size 3 i0 _ 8 Try.underlying37 hi0 hz0 hz1 hz2 rfl Ak ck ks rfl (HT4.out.alloc _).ok (some ⟨W4.heap.size, 0, none⟩) 1 [K] rfl (Rd.new _ _ _ _) (by simp only [maxLen, List.length_cons, List.length_nil]; omega) (by simp only [List.length_cons, List.length_nil]; omega) (by simp; have := hb4'.size; omega) ?_
                     intro A5 c5 ks5 W5 e5 hown5 hr5 hg5 hb5 hat5
                     have HT5 := Lib.hid ((HT4.out.alloc _).k hown5 ⟨hg5, hat5, hb5⟩)
                     have hb5' := (hb4'.alloc hb4'.size _).trans hb5
                     have m1 := hg5.cell ((Up.of ((Below.refl _ _).alloc (Nat.le_refl _) _)).cell m1) hneK
                     clear hown5 hr5 hg5 hb5 hat5)
                  | (at_builtin
                     refine wpList_append_map _ CTv CTv_one rfl (.tmp 77) (.tmp 80) _ rfl w.heap.size 22 s0 _ 24 Try.underlying38 hs0 hy0 hy1 hy2 rfl Ac cc xs rfl (HT5.out.alloc _).oc (some ⟨W5.heap.size, 0, none⟩) 1 [⟨B, C, d⟩] rfl (Rd.new _ _ _ _) (by simp only [maxLen, List.length_cons, List.length_nil]; omega) (by simp only [List.length_cons, List.length_nil]; omega) (by simp; have := hb5'.size; omega) ?_
                     intro A6 c6 xs6 W6 e6 hown6 hr6 hg6 hb6 hat6
                     have HT6 := Lib.hid ((HT5.out.alloc _).c hown6 ⟨hg6, hat6, hb6⟩)
                     have hb6' := (hb5'.alloc hb5'.size _).trans hb6
                     clear hown6 hr6 hg6 hb6 hat6)
                  | fail)
                go_roundw
                case rel =>
                  have e4' := e4.out
                  have e5' := e5.out
                  have e6' := e6.out
                  subst e4' e5' e6'
                  obtain ⟨z1, z2, z3, z4⟩ := HY.out.size hf (by omega)
                  exact ⟨j + 1, j + 1, A5, c5, A6, c6, A4, c4, _, _, _, _, rfl, rfl, rfl, rfl, rfl, by omega, z1, z2, z3, z4, HT6.out, HY.out, hb6'⟩
                case measure => simp [intOf]; omega
              · have HN := Lib.hid (HN.out (by omega))
                clear HY
                go_wp2_with (first
                  | (at_builtin
                     refine wpList_append_map _ U8 U8_one rfl (.tmp 63) (.tmp 64) _ rfl w.heap.size 5 u0 _ 1 Try.underlying22 hu0 hv0 hv1 hv2 rfl Aa ca L rfl HT3.out.oa A3 c3 F rfl hA3.out.1 (by simp only [maxLen]; omega) (by omega) hA3.out.2 ?_
                     intro A4 c4 L4 W4 e4 hown4 hr4 hg4 hb4 hat4
                     have HT4 := Lib.hid (HT3.out.a hown4 ⟨hg4, hat4, hb4⟩)
                     have hb4' := hb3.trans hb4
                     have m0 := hg4.cell m0 hneA
                     have m1 := hg4.cell m1 hneA
                     have q4 : ¬ L4.length ≤ cut := by rw [e4.out, List.length_append]; omega
                     have q4' : ¬ (L4.length : Int) ≤ (cut : Int) := by omega
                     clear hown4 hr4 hg4 hb4 hat4)
                  | fail)
                go_roundw
                case rel =>
                  have e4' := e4.out
                  subst e4'
                  obtain ⟨z1, z2, z3, z4⟩ := HN.out.size hf (by omega)
                  exact ⟨j + 1, m, Ak, ck, Ac, cc, A4, c4, _, _, _, _, rfl, rfl, rfl, rfl, rfl, by omega, z1, z2, z3, z4, HT4.out, HN.out, hb4'⟩
                case measure => simp [intOf]; omega
            · have p4 : decide (300 < (C.length : Int)) = true := by simp; omega
              go_wp2_with fail
              refine (awake_any _).mono ?_
              rintro e w' ⟨rfl, hb9⟩
              go_wp2_with fail
              go_ret
              exact ⟨rfl, step_below (hb.alloc hb.size _) hb9⟩
          · have p3 : decide (255 < K) = true := by simp; omega
            go_wp2_with fail
            refine (awake_any _).mono ?_
            rintro e w' ⟨rfl, hb9⟩
            go_wp2_with fail
            go_ret
            exact ⟨rfl, step_below (hb.alloc hb.size _) hb9⟩
        · have p2 : decide (K < 1) = true := by simp; omega
          go_wp2_with fail
          refine (awake_any _).mono ?_
          rintro e w' ⟨rfl, hb9⟩
          go_wp2_with fail
          go_ret
          exact ⟨rfl, step_below (hb.alloc hb.size _) hb9⟩
      · obtain rfl : j = ps.length := by omega
        obtain ⟨f1, f2, f3⟩ := hst.fin rfl
        obtain ⟨X, hX⟩ : ∃ X, L.take cut = X := ⟨_, rfl⟩
        have hXl : X.length ≤ 8000 := by rw [← hX]; simp; omega
        have hek := hst.ek
        have HR : Hid (∀ x ∈ xs, Rd w x.A (x.C.map U8)) := by
          rw [Hid, hst.ec]
          intro x hx
          obtain ⟨p, hp, rfl⟩ := List.mem_map.1 hx
          exact (hps p (List.mem_of_mem_take hp)).2.1
        rw [hX] at f1
        have K1 := Lib.hid (fun (w : World) A c (h1 : X.length ≤ c) (h : Rd w A (X.map U8)) => (all_any w A c X h1 h (by omega)).mono (fun _ _ h => by rw [f1] at h; exact RetAll.ks h hek rfl))
        have HF := Lib.hid (And.intro f2 f3)
        have hcap := htri.oa.cap
        have hrX : Rd wr Aa (X.map U8) := by rw [← hX]; exact htri.oa.rd'.take8 cut
        have HX := Lib.hid hX
        have q1 : (n == n) = true := by simp
        clear hst f1 f2 f3 hek hX hps
        by_cases hcl : cut ≤ L.length
        · have hxl : X.length = cut := by rw [← HX.out]; simp; omega
          have cp : Calls Try.prog 13 #[.slice Aa cut ca] wr (RetNew U8 5 X wr) := by
            have := copied_any wr Aa ca X hrX (by omega)
            rwa [hxl] at this
          have cp := Lib.hid cp
          clear hxl
          clear HX hrX
          go_wp2_with fail
          refine cp.out.mono ?_
          rintro e w1 ⟨A1, c1, rfl, hown1, hb1⟩
          clear cp
          have ht1 := Lib.hid (htri.up hb1)
          have hb1' := step_below hb hb1
          clear htri
          go_wp2_with fail
          refine (K1.out _ _ _ hown1.cap hown1.rd').mono ?_
          rintro e w2 ⟨A2, c2, A3, c3, ys, rfl, r2, r3, ry, hy, hb2⟩
          have ht2 := ht1.out.up hb2
          have hb2' := step_below hb1' hb2
          have Hy := Lib.hid hy
          clear hy hown1 hb1 hb2 ht1
          have hS := Lib.hid (same_any w2 ks ys xs A2 Ak A3 Ac c2 ck c3 cc r2 ht2.ok.rd' r3 ht2.oc.rd' ry (fun x hx => (HR.out x hx).below hb2') (by rw [Hy.out, HF.out.1]) (by have e1 := congrArg List.length (Hy.out.trans HF.out.1.symm); rw [HF.out.2]; simpa [contents] using e1.symm) (by omega))
          clear r2 r3 ry ht2 K1
          go_wp2_with fail
          refine hS.out.mono ?_
          rintro e w4 ⟨rfl, hb4⟩
          have hb4' := step_below hb2' hb4
          clear hS
          go_wp2_with fail
          refine (awake_any _).mono ?_
          rintro e w5 ⟨rfl, hb5⟩
          go_wp2_with fail
          go_ret
          exact ⟨rfl, step_below hb4' hb5⟩
        · have hxl : X.length = L.length := by rw [← HX.out, List.take_of_length_le (by omega)]
          have cp : Calls Try.prog 13 #[.slice Aa L.length ca] wr (RetNew U8 5 X wr) := by
            have := copied_any wr Aa ca X hrX (by omega)
            rwa [hxl] at this
          have cp := Lib.hid cp
          clear hxl
          clear HX hrX
          go_wp2_with fail
          refine cp.out.mono ?_
          rintro e w1 ⟨A1, c1, rfl, hown1, hb1⟩
          clear cp
          have ht1 := Lib.hid (htri.up hb1)
          have hb1' := step_below hb hb1
          clear htri
          go_wp2_with fail
          refine (K1.out _ _ _ hown1.cap hown1.rd').mono ?_
          rintro e w2 ⟨A2, c2, A3, c3, ys, rfl, r2, r3, ry, hy, hb2⟩
          have ht2 := ht1.out.up hb2
          have hb2' := step_below hb1' hb2
          have Hy := Lib.hid hy
          clear hy hown1 hb1 hb2 ht1
          have hS := Lib.hid (same_any w2 ks ys xs A2 Ak A3 Ac c2 ck c3 cc r2 ht2.ok.rd' r3 ht2.oc.rd' ry (fun x hx => (HR.out x hx).below hb2') (by rw [Hy.out, HF.out.1]) (by have e1 := congrArg List.length (Hy.out.trans HF.out.1.symm); rw [HF.out.2]; simpa [contents] using e1.symm) (by omega))
          clear r2 r3 ry ht2 K1
          go_wp2_with fail
          refine hS.out.mono ?_
          rintro e w4 ⟨rfl, hb4⟩
          have hb4' := step_below hb2' hb4
          clear hS
          go_wp2_with fail
          refine (awake_any _).mono ?_
          rintro e w5 ⟨rfl, hb5⟩
          go_wp2_with fail
          go_ret
          exact ⟨rfl, step_below hb4' hb5⟩
  · by_cases h1 : 20 < ps.length
    · have p0 : decide (20 < (ps.length : Int)) = true := by simp; omega
      go_enter Try.func10, Try.ntmps10
      go_wp2_with fail
      refine (awake_any _).mono ?_
      rintro e w' ⟨rfl, hb⟩
      go_wp2_with fail
      go_ret
      exact ⟨rfl, hb⟩
    · have p0 : decide (20 < (ps.length : Int)) = false := by simp; omega
      have p1 : decide (n < 0) = true := by simp; omega
      clear hf
      go_enter Try.func10, Try.ntmps10
      go_wp2_with fail
      refine (awake_any _).mono ?_
      rintro e w' ⟨rfl, hb⟩
      go_wp2_with fail
      go_ret
      exact ⟨rfl, hb⟩
end Go.Proofs.Ythjmdfimnbmbfaa
