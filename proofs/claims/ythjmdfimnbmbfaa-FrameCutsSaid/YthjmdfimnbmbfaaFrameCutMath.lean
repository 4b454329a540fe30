/-
  Plain laws of FrameCuts: frames one after the other, cut anywhere. Conditions: kinds from 1 to 255.
-/
import Derived.Test.YthjmdfimnbmbfaaFrameAll
namespace Go.Proofs.Ythjmdfimnbmbfaa
open Go.RowKit
set_option linter.unusedVariables false

/-- frames one after the other -/
def cat (ps : List (Int × List UInt8)) : List UInt8 := ps.flatMap (fun p => fseal p.1 p.2)
theorem cat_nil : cat [] = [] := rfl
theorem cat_cons (p : Int × List UInt8) (ps) : cat (p :: ps) = fseal p.1 p.2 ++ cat ps := rfl
theorem cat_append (ps qs : List (Int × List UInt8)) : cat (ps ++ qs) = cat ps ++ cat qs := by simp [cat]
theorem cat_one (p : Int × List UInt8) : cat [p] = fseal p.1 p.2 := by simp [cat]
def Good (p : Int × List UInt8) : Prop := 1 ≤ p.1 ∧ p.1 ≤ 255 ∧ p.2.length ≤ 300

theorem allF_cat (t : List UInt8) : ∀ (ps : List (Int × List UInt8)) (l : List UInt8) (f : Nat), (∀ p ∈ ps, Good p) → opE (l ++ (cat ps ++ t)) ((l ++ cat ps).length : Int) ≠ 0 → ps.length < f →
    allF (l ++ (cat ps ++ t)) f (l.length : Int) = (ps, ((l ++ cat ps).length : Int)) := by
  intro ps
  induction ps with
  | nil =>
    intro l f _ he hf
    obtain ⟨f, rfl⟩ : ∃ g, f = g + 1 := ⟨f - 1, by simp at hf; omega⟩
    rw [cat_nil, List.append_nil] at he ⊢
    rw [allF, if_neg he]
  | cons p ps ih =>
    intro l f hg he hf
    obtain ⟨f, rfl⟩ : ∃ g, f = g + 1 := ⟨f - 1, by simp at hf; omega⟩
    obtain ⟨k, c⟩ := p
    obtain ⟨g1, g2, g3⟩ := hg (k, c) (List.mem_cons_self ..)
    have g1 : 1 ≤ k := g1
    have g2 : k ≤ 255 := g2
    have g3 : c.length ≤ 300 := g3
    have hR := op_seal l (cat ps ++ t) k c g1 g2 (by omega)
    rw [cat_cons, List.append_assoc] at he ⊢
    have e0 : opE (l ++ (fseal k c ++ (cat ps ++ t))) (l.length : Int) = 0 := by rw [opE, hR]
    have e1 : opK (l ++ (fseal k c ++ (cat ps ++ t))) (l.length : Int) = k := by rw [opK, hR]
    have e2 : opC (l ++ (fseal k c ++ (cat ps ++ t))) (l.length : Int) = c := by rw [opC, hR]
    have e3 : opT (l ++ (fseal k c ++ (cat ps ++ t))) (l.length : Int) = ((l ++ fseal k c).length : Int) := by rw [opT, hR]
    have ih := ih (l ++ fseal k c) f (fun q hq => hg q (List.mem_cons_of_mem _ hq)) (by
      simp only [List.append_assoc] at he ⊢; exact he) (by simp at hf; omega)
    rw [allF, if_pos e0, e1, e2, e3]
    rw [List.append_assoc] at ih
    rw [ih]
    simp [List.append_assoc]

/-- all the frames, cut: the complete ones, and where they end -/
theorem allR_cut (ps : List (Int × List UInt8)) (hg : ∀ p ∈ ps, Good p) (m : Nat) (hm : m ≤ ps.length) (cut : Nat) (h1 : (cat (ps.take m)).length ≤ cut) (h2 : m = ps.length ∨ cut < (cat (ps.take (m + 1))).length) :
    allR ((cat ps).take cut) = (ps.take m, ((cat (ps.take m)).length : Int)) := by
  have hlen : ∀ (qs : List (Int × List UInt8)), qs.length ≤ (cat qs).length := by
    intro qs
    induction qs with
    | nil => simp
    | cons q qs ih =>
      rw [cat_cons, List.length_append, List.length_cons, fseal_length]; omega
  have key : ∀ (t : List UInt8), (cat ps).take cut = cat (ps.take m) ++ t → opE (cat (ps.take m) ++ t) ((cat (ps.take m)).length : Int) ≠ 0 → allR ((cat ps).take cut) = (ps.take m, ((cat (ps.take m)).length : Int)) := by
    intro t e he
    have := allF_cat t (ps.take m) [] ((cat (ps.take m) ++ t).length + 1) (fun p hp => hg p (List.mem_of_mem_take hp)) (by simpa using he) (by have := hlen (ps.take m); simp only [List.length_append]; omega)
    unfold allR
    rw [e]
    simpa using this
  rcases h2 with rfl | h2
  · rw [List.take_length] at h1
    refine key [] (by rw [List.take_length, List.append_nil, List.take_of_length_le h1]) ?_
    rw [List.append_nil, opE, op_end rfl]; decide
  · rcases Nat.lt_or_ge m ps.length with hlt | hge
    · obtain ⟨⟨k, c⟩, hp⟩ : ∃ q, ps[m] = q := ⟨_, rfl⟩
      have e0 : ps.take (m + 1) = ps.take m ++ [(k, c)] := by rw [List.take_add_one, List.getElem?_eq_getElem hlt, hp]; rfl
      have e1 : ps = ps.take m ++ (k, c) :: ps.drop (m + 1) := by
        rw [← hp, ← List.drop_eq_getElem_cons hlt, List.take_append_drop]
      obtain ⟨g1, g2, g3⟩ := hg (k, c) (by rw [← hp]; exact List.getElem_mem _)
      have g1 : 1 ≤ k := g1
      have g2 : k ≤ 255 := g2
      have g3 : c.length ≤ 300 := g3
      rw [e0, cat_append, cat_one, List.length_append] at h2
      have h2 : cut < (cat (ps.take m)).length + (fseal k c).length := h2
      refine key ((fseal k c).take (cut - (cat (ps.take m)).length)) ?_ ?_
      · have e2 : cat ps = cat (ps.take m) ++ (fseal k c ++ cat (ps.drop (m + 1))) := by
          conv => lhs; rw [e1]
          rw [cat_append, cat_cons]
        rw [e2, List.take_append, List.take_of_length_le h1, List.take_append_of_le_length (by omega)]
      · rw [opE, op_cut (cat (ps.take m)) k c _ g1 g2 (by omega) (by omega)]; decide
    · obtain rfl : m = ps.length := by omega
      rw [List.take_length] at h1
      refine key [] (by rw [List.take_length, List.append_nil, List.take_of_length_le h1]) ?_
      rw [List.append_nil, opE, op_end rfl]; decide
theorem cat_mono (ps : List (Int × List UInt8)) {i j : Nat} (h : i ≤ j) : (cat (ps.take i)).length ≤ (cat (ps.take j)).length := by
  have : ps.take j = ps.take i ++ (ps.take j).drop i := by
    conv => lhs; rw [← List.take_append_drop i (ps.take j)]
    rw [List.take_take, Nat.min_eq_left h]
  rw [this, cat_append, List.length_append]; omega
/-- how many frames are complete among the first j -/
def Kept (ps : List (Int × List UInt8)) (cut : Nat) (j m : Nat) : Prop := m ≤ j ∧ (cat (ps.take m)).length ≤ cut ∧ (m = j ∨ cut < (cat (ps.take (m + 1))).length)
theorem Kept.start (ps : List (Int × List UInt8)) (cut : Nat) : Kept ps cut 0 0 := ⟨by omega, by simp [cat_nil], .inl rfl⟩
theorem Kept.yes {ps : List (Int × List UInt8)} {cut j m : Nat} (h : Kept ps cut j m) (hc : (cat (ps.take (j + 1))).length ≤ cut) : m = j ∧ Kept ps cut (j + 1) (j + 1) := by
  obtain ⟨h1, h2, h3⟩ := h
  refine ⟨?_, by omega, hc, .inl rfl⟩
  rcases h3 with h3 | h3
  · exact h3
  · rcases Nat.lt_or_ge m j with hlt | hge
    · have := cat_mono ps (show m + 1 ≤ j + 1 by omega)
      omega
    · omega
theorem Kept.no {ps : List (Int × List UInt8)} {cut j m : Nat} (h : Kept ps cut j m) (hc : cut < (cat (ps.take (j + 1))).length) : Kept ps cut (j + 1) m := by
  obtain ⟨h1, h2, h3⟩ := h
  refine ⟨by omega, h2, .inr ?_⟩
  rcases h3 with rfl | h3
  · exact hc
  · exact h3
theorem cat_len (ps : List (Int × List UInt8)) (hg : ∀ p ∈ ps, Good p) : (cat ps).length ≤ 400 * ps.length := by
  induction ps with
  | nil => simp [cat]
  | cons p ps ih =>
    have h1 := hg p (List.mem_cons_self ..)
    have h2 := ih (fun q hq => hg q (List.mem_cons_of_mem _ hq))
    have h3 := enc_length (p.2.length : Int)
    obtain ⟨g1, g2, g3⟩ := h1
    rw [cat_cons, List.length_append, fseal_length, List.length_cons]
    omega
end Go.Proofs.Ythjmdfimnbmbfaa
