/-
  What the bound of a second form gives: a list's length is at most the bulk of its reading. Conditions: none.
-/
import Derived.Test.YtcomeidcmcegfaaDoorRows
import Derived.ProofKit
import Derived.OpenShut
namespace Go.Proofs.YtcomeidcmcegfaaDoor
open Go.RowKit
set_option linter.unusedVariables false

theorem bulk_one {H : Type} (d : DataW H) : 1 ≤ Rows.uptoBulk d := by
  cases d with
  | lit l => cases l <;> simp [Rows.uptoBulk]
  | nil => simp [Rows.uptoBulk]
  | ptr d => simp [Rows.uptoBulk]
  | slice elems spare => simp [Rows.uptoBulk]
  | agg parts => simp [Rows.uptoBulk]
  | iface t d => simp [Rows.uptoBulk]
  | map entries => simp [Rows.uptoBulk]
  | held h => simp [Rows.uptoBulk]
theorem bulk_part {H : Type} {d : DataW H} {l : List (DataW H)} (h : d ∈ l) : Rows.uptoBulk d ≤ Rows.uptoBulkAll l := by
  induction l with
  | nil => cases h
  | cons x r ih =>
    simp only [Rows.uptoBulkAll]
    cases List.mem_cons.1 h with
    | inl e => subst e; omega
    | inr e => have := ih e; omega
theorem bulk_len {H : Type} (l : List (DataW H)) : l.length ≤ Rows.uptoBulkAll l := by
  induction l with
  | nil => simp [Rows.uptoBulkAll]
  | cons x r ih => have := bulk_one x; simp only [Rows.uptoBulkAll, List.length_cons]; omega
theorem mapM_len {α β : Type} {f : α → Option β} : ∀ {l : List α} {r : List β}, l.mapM f = some r → r.length = l.length
  | [], r, h => by simp at h; subst h; rfl
  | a :: l, r, h => by
    rw [List.mapM_cons] at h
    obtain ⟨b, _, h2⟩ := Option.bind_eq_some_iff.1 h
    obtain ⟨bs, h3, h4⟩ := Option.bind_eq_some_iff.1 h2
    injection h4 with h4
    rw [← h4, List.length_cons, List.length_cons, mapM_len h3]
theorem bulk_slice {H : Type} {enc : TypeId × Value → H} {P : Program} {W : World} {base : Nat} {sp : Nat → Bool} {held : Bool} {t e : TypeId} {A : Option Addr} {n c : Nat} {d : DataW H} {p : List MemPlace} (ht : P.underlying t = some (.slice e))
    (h : DataW.Trod enc P W base sp held t (.slice A n c) d p) : n ≤ Rows.uptoBulk d := by
  obtain ⟨fuel, hf⟩ := h
  cases fuel with
  | zero => simp [DataW.trod] at hf
  | succ fuel =>
    have hc : (Value.slice A n c).cells.toList = [.slice A n c] := rfl
    rw [hc] at hf
    simp only [DataW.trod, ht] at hf
    split at hf
    all_goals first | (rename_i hs hs2; cases hs2; done) | (cases hf; done) | (rename_i hs hs2; cases hf; cases hs2; exact Nat.zero_le _) | skip
    rename_i hs hs2
    injection hs2 with hs2 _
    injection hs2 with _ h2 _
    subst h2
    split at hf
    · obtain ⟨el, h1, h3⟩ := Option.bind_eq_some_iff.1 hf
      obtain ⟨re, h4, h5⟩ := Option.map_eq_some_iff.1 h3
      have hl : el.length = n := by
        have := mapM_len h1
        rwa [List.length_range] at this
      have e1 := congrArg Prod.fst h5
      simp only at e1
      rw [← e1]
      have := bulk_len (el.map (·.1))
      rw [List.length_map, hl] at this
      simp only [Rows.uptoBulk]
      omega
    · cases hf
theorem bulk_le {H : Type} {l : List (DataW H)} (hk : Rows.uptoSmall H l = true) : Rows.uptoBulkAll l ≤ 1048576 := of_decide_eq_true hk
end Go.Proofs.YtcomeidcmcegfaaDoor
