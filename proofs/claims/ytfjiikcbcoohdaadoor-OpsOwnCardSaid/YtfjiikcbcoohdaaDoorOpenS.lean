/-
  How a field of a struct and a slice of structs are opened. Conditions: none; plain lemmas over any program.
-/
import Derived.Test.YtfjiikcbcoohdaaDoorOpenF
import Derived.Test.YtfjiikcbcoohdaaDoorAppend
namespace Go.Proofs.YtfjiikcbcoohdaaDoor
open Go.RowKit Go.ChangeShapes Go.WideShapes
set_option linter.unusedVariables false
section
variable {H : Type} {enc : TypeId × Value → H} {P : Program} {W : World} {base : Nat} {r : Reach} {b0 : Nat} {t e : TypeId} {v : Value} {d : DataW H} {p : List MemPlace} {fuel : Nat} {x : DataW H × List MemPlace} {cs : List Value}

/-- the i-th field of a struct reads -/
theorem fld_at {fs : Array Field} (ht : P.underlying t = some (.struct fs)) (h : DataW.trod enc P W base (fun _ => true) true fuel t cs = some x) (i : Nat) {f : Field} (hf : fs[i]? = some f) :
    ∃ m y, DataW.trod enc P W base (fun _ => true) true m f.type ((cs.drop f.offset).take (P.cellsOf f.type)) = some y := by
  obtain ⟨xs, n, _, _, _, hl, hg⟩ := DataW.trod_struct ht h
  have h1 := hg i f hf
  have hi : i < fs.size := by
    rcases Nat.lt_or_ge i fs.size with hlt | hge
    · exact hlt
    · rw [Array.getElem?_eq_none hge] at hf; cases hf
  exact ⟨n, xs[i]'(by omega), by rw [h1]; simp [show i < xs.length by omega]⟩
theorem len_of {fs : Array Field} (ht : P.underlying t = some (.struct fs)) (h : DataW.trod enc P W base (fun _ => true) true fuel t cs = some x) : cs.length = P.cellsOf t := by
  obtain ⟨xs, n, _, _, hc, _⟩ := DataW.trod_struct ht h
  exact hc

theorem cells_at {w : World} {base : Nat} {a : Addr} {n : Nat} {cs : List Value} (h : w.cells? base a n = some cs) : cs.length = n ∧ ∀ j, j < n → w.cell? (a.add j) = cs[j]? := by
  unfold World.cells? at h
  split at h
  · exact ⟨by simpa using mapM_some_length h, fun j hj => mapM_some_get h j j (by simp [hj])⟩
  · cases h

/-- lists of cells, chosen one by one -/
theorem choose_list {α : Type} (f : α → List Value) (G : α → Prop) (n : Nat) (R : Nat → List Value → Prop) (h : ∀ i, i < n → ∃ a, R i (f a) ∧ G a) : ∃ l : List α, l.length = n ∧ (∀ i a, l[i]? = some a → R i (f a)) ∧ ∀ a ∈ l, G a := by
  induction n with
  | zero => exact ⟨[], rfl, by simp, by simp⟩
  | succ n ih =>
    obtain ⟨l, h1, h2, h3⟩ := ih (fun i hi => h i (by omega))
    obtain ⟨a, ha, hG⟩ := h n (by omega)
    refine ⟨l ++ [a], by simp [h1], fun i b hb => ?_, fun b hb => ?_⟩
    · rcases Nat.lt_or_ge i l.length with hlt | hge
      · rw [List.getElem?_append_left hlt] at hb; exact h2 i b hb
      · have hi : i = n := by
          have := (List.getElem?_eq_some_iff.1 hb).1
          simp at this; omega
        subst hi
        rw [List.getElem?_append_right (by omega), h1] at hb
        simp at hb
        subst hb; exact ha
    · rcases List.mem_append.1 hb with h | h
      · exact h3 b h
      · rw [List.mem_singleton.1 h]; exact hG
theorem flat_get {α : Type} (f : α → List Value) (s : Nat) (hf : ∀ a, (f a).length = s) (h0 : 0 < s) : ∀ (l : List α) (j : Nat) (u : Value), (l.flatMap f)[j]? = some u → ∃ a, l[j / s]? = some a ∧ (f a)[j % s]? = some u := by
  intro l
  induction l with
  | nil => intro j u h; simp at h
  | cons a l ih =>
    intro j u h
    rw [List.flatMap_cons] at h
    rcases Nat.lt_or_ge j s with hlt | hge
    · rw [List.getElem?_append_left (by rw [hf]; exact hlt)] at h
      exact ⟨a, by rw [Nat.div_eq_of_lt hlt]; rfl, by rw [Nat.mod_eq_of_lt hlt]; exact h⟩
    · rw [List.getElem?_append_right (by rw [hf]; exact hge), hf] at h
      obtain ⟨b, h1, h2⟩ := ih (j - s) u h
      refine ⟨b, ?_, ?_⟩
      · rw [Nat.div_eq_sub_div h0 hge]; simpa using h1
      · rw [Nat.mod_eq_sub_mod hge]; exact h2
/-- a slice of structs -/
theorem fld_list {α : Type} (f : α → List Value) (G : α → Prop) {s : Nat} (ht : P.underlying t = some (.slice e)) (hsz : P.cellsOf e = s) (h0 : 0 < s) (hf : ∀ a, (f a).length = s)
    (hQ : ∀ m cs y, DataW.trod enc P W base (fun _ => true) true m e cs = some y → ∃ a, cs = f a ∧ G a) (h : DataW.trod enc P W base (fun _ => true) true fuel t [v] = some x) :
    ∃ (A : Option Addr) (l : List α) (c : Nat), v = .slice A l.length c ∧ Rd W A (l.flatMap f) ∧ l.length ≤ maxLen ∧ (∀ a ∈ l, G a) ∧ l.length ≤ c := by
  rcases DataW.trod_slice ht h with ⟨hcs, _⟩ | ⟨a, len, cap, elems, rest, n, _, hcs, _, _, hl, hm, hel, hg, _, _⟩
  · simp at hcs
    subst hcs
    exact ⟨none, [], 0, rfl, Rd.nil _ _, by simp, by simp, by simp⟩
  · simp at hcs
    subst hcs
    obtain ⟨l, h1, h2, h3⟩ := choose_list f G len (fun i cs => W.cells? base (a.add (i * s)) s = some cs) (fun i hi => by
      have hi' := hg i hi
      rw [hsz, List.getElem?_eq_getElem (by omega)] at hi'
      obtain ⟨cs, e1, e2⟩ := Option.bind_eq_some_iff.1 hi'
      obtain ⟨b, rfl, hb⟩ := hQ _ _ _ e2
      exact ⟨b, e1, hb⟩)
    refine ⟨some a, l, cap, by rw [h1], fun hne => ?_, by omega, h3, by omega⟩
    have hcell : ∀ j u, (l.flatMap f)[j]? = some u → W.cell? ((a.add (j / s * s)).add (j % s)) = some u := by
      intro j u hu
      obtain ⟨b, e1, e2⟩ := flat_get f s hf h0 l j u hu
      have := (cells_at (h2 _ _ e1)).2 (j % s) (Nat.mod_lt _ h0)
      rw [this]; exact e2
    obtain ⟨b, off, spot⟩ := a
    obtain ⟨u0, hu0⟩ : ∃ u, (l.flatMap f)[0]? = some u := by
      rcases hX : l.flatMap f with _ | ⟨y, ys⟩
      · exact absurd hX hne
      · exact ⟨y, rfl⟩
    have hc0 := hcell 0 u0 hu0
    have hspot : spot = none := by simpa [Addr.add] using World.cell?_spot hc0
    subst hspot
    refine ⟨b, off, rfl, by have := lt_of_cell hc0; simpa [Addr.add] using this, fun j u hu => ?_⟩
    have := hcell j u hu
    rw [add_plain, add_plain, Nat.add_assoc, Nat.mul_comm, Nat.div_add_mod] at this
    exact this
end
end Go.Proofs.YtfjiikcbcoohdaaDoor
