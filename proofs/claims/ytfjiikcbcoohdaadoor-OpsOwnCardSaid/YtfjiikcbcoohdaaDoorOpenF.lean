/-
  How the fields of a struct argument are opened, and bytes with their capacity. Conditions: none; plain lemmas over any program.
-/
import Derived.Test.YtfjiikcbcoohdaaDoorOpen
import Derived.Lib.SmallJoins
namespace Go.Proofs.YtfjiikcbcoohdaaDoor
open Go.RowKit Go.ChangeShapes Go.WideShapes
set_option linter.unusedVariables false
section
variable {H : Type} {enc : TypeId × Value → H} {P : Program} {W : World} {base : Nat} {r : Reach} {b0 : Nat} {t e : TypeId} {v : Value} {d : DataW H} {p : List MemPlace} {fuel : Nat} {x : DataW H × List MemPlace}

theorem fld_int {k : IntKind} (ht : P.underlying t = some (.int k)) (h : DataW.trod enc P W base (fun _ => true) true fuel t [v] = some x) : ∃ n, v = .int k n ∧ (Lit.int k n).wf = true := by
  obtain ⟨n, e0, _, w⟩ := DataW.trod_int ht h
  simp at e0
  exact ⟨n, e0, w⟩
theorem fld_i64 (ht : P.underlying t = some (.int .i64)) (h : DataW.trod enc P W base (fun _ => true) true fuel t [v] = some x) : ∃ n, v = .int .i64 n ∧ -9223372036854775808 ≤ n ∧ n ≤ 9223372036854775807 := by
  obtain ⟨n, rfl, w⟩ := fld_int ht h
  exact ⟨n, rfl, bounds_i64 w⟩
theorem fld_string (ht : P.underlying t = some .string) (h : DataW.trod enc P W base (fun _ => true) true fuel t [v] = some x) : ∃ s : List UInt8, v = .string ⟨s.toArray⟩ ∧ s.length ≤ maxLen := by
  obtain ⟨s, e0, _, w⟩ := DataW.trod_string ht h
  simp at e0
  exact ⟨s.data.toList, by rw [e0], by rw [Array.length_toList]; exact w⟩
theorem fld_row {k : IntKind} (ht : P.underlying t = some (.slice e)) (he : P.underlying e = some (.int k)) (hc : P.cellsOf e = 1) (h : DataW.trod enc P W base (fun _ => true) true fuel t [v] = some x) :
    ∃ (A : Option Addr) (zs : List Int) (c : Nat), v = .slice A zs.length c ∧ Rd W A (zs.map (Value.int k)) ∧ zs.length ≤ maxLen ∧ (∀ n ∈ zs, (Lit.int k n).wf = true) ∧ zs.length ≤ c := by
  rcases open_ints ht he hc h with ⟨hcs, _⟩ | ⟨x, l, c, zs, hcs, _, hl, hm, hz, _, hcell, hwz⟩
  · simp at hcs
    subst hcs
    exact ⟨none, [], 0, rfl, Rd.nil _ _, by simp, by simp, by simp⟩
  · simp at hcs
    subst hcs
    have hz' : zs.length = c := by simpa using hz
    have htl : (zs.take l).length = l := by simp; omega
    refine ⟨some x, zs.take l, c, by rw [htl], fun hne => ?_, by rw [htl]; omega, fun n hn => hwz n (List.mem_of_mem_take hn), by rw [htl]; omega⟩
    have hlen : 0 < l := by
      rcases Nat.eq_zero_or_pos l with h0 | h0
      · subst h0; simp at hne
      · exact h0
    obtain ⟨b, off, spot⟩ := x
    have hc0 := hcell 0 (by omega)
    have hspot : spot = none := by simpa [Addr.add] using World.cell?_spot hc0
    subst hspot
    refine ⟨b, off, rfl, by have := lt_of_cell hc0; simpa [Addr.add] using this, fun j u hu => ?_⟩
    have hjl : j < l := by
      have := (List.getElem?_eq_some_iff.1 hu).1
      simp at this; omega
    have hj : j < zs.length := by omega
    have := hcell j hj
    rw [show (⟨b, off, none⟩ : Addr).add j = ⟨b, off + j, none⟩ by unfold Addr.add; split <;> simp_all] at this
    rw [this, ← hu]
    simp [hjl, List.getD, List.getElem?_eq_getElem hj]
theorem fld_ints (ht : P.underlying t = some (.slice e)) (he : P.underlying e = some (.int .i64)) (hc : P.cellsOf e = 1) (h : DataW.trod enc P W base (fun _ => true) true fuel t [v] = some x) :
    ∃ (A : Option Addr) (l : List Int) (c : Nat), v = .slice A l.length c ∧ Rd W A (l.map I64) ∧ l.length ≤ maxLen ∧ (∀ n ∈ l, -9223372036854775808 ≤ n ∧ n ≤ 9223372036854775807) ∧ l.length ≤ c := by
  obtain ⟨A, zs, c, rfl, hr, hm, hw, hc⟩ := fld_row ht he hc h
  exact ⟨A, zs, c, rfl, hr, hm, fun n hn => bounds_i64 (hw n hn), hc⟩
theorem fld_bytes (ht : P.underlying t = some (.slice e)) (he : P.underlying e = some (.int .u8)) (hc : P.cellsOf e = 1) (h : DataW.trod enc P W base (fun _ => true) true fuel t [v] = some x) :
    ∃ (A : Option Addr) (l : List UInt8) (c : Nat), v = .slice A l.length c ∧ Rd W A (l.map U8) ∧ l.length ≤ maxLen ∧ l.length ≤ c := by
  obtain ⟨A, zs, c, rfl, hr, hm, hw, hc⟩ := fld_row ht he hc h
  obtain ⟨l, hl⟩ := bytes_of_ints zs hw
  have hlen : l.length = zs.length := by simpa using (congrArg List.length hl).symm
  exact ⟨A, l, c, by rw [hlen], by rw [← hl]; exact hr, by omega, by omega⟩
/-- bytes, with the capacity -/
theorem arg_bytesc (ht : P.underlying t = some (.slice e)) (he : P.underlying e = some (.int .u8)) (hc : P.cellsOf e = 1)
    (hv : Value.okWide P W r b0 t v) (h : DataW.Trod enc P W base (fun _ => true) true t v d p) :
    ∃ (A : Option Addr) (l : List UInt8) (c : Nat), v = .slice A l.length c ∧ Rd W A (l.map U8) ∧ l.length ≤ maxLen ∧ l.length ≤ c := by
  obtain ⟨a0, len, cap, rfl⟩ := okWide_slice ht hv
  obtain ⟨fuel, hf⟩ := h
  exact fld_bytes ht he hc hf
theorem arg_u16 (ht : P.underlying t = some (.int .u16)) (hv : Value.okWide P W r b0 t v) (h : DataW.Trod enc P W base (fun _ => true) true t v d p) :
    ∃ n : Nat, v = .int .u16 (n : Int) ∧ n < 65536 := by
  obtain ⟨n, rfl, w⟩ := arg_int ht hv h
  have := bounds_u16 w
  exact ⟨n.toNat, by rw [show ((n.toNat : Nat) : Int) = n by omega], by omega⟩
theorem arg_thing {f0 f1 f2 : Field} (hs : P.underlying t = some (.struct #[f0, f1, f2])) (hone : Deep.oneCellFields P #[f0, f1, f2] = true) (hC : P.cellsOf t = 3)
    (h0 : P.underlying f0.type = some (.int .i64)) (h1 : P.underlying f1.type = some .string) (h2 : P.underlying f2.type = some (.slice e)) (he : P.underlying e = some (.int .i64)) (hc : P.cellsOf e = 1)
    (hv : Value.okWide P W r b0 t v) (h : DataW.Trod enc P W base (fun _ => true) true t v d p) :
    ∃ (n : Int) (s : List UInt8) (A : Option Addr) (l : List Int) (c : Nat), v = .agg #[.int .i64 n, .string ⟨s.toArray⟩, .slice A l.length c] ∧ (-9223372036854775808 ≤ n ∧ n ≤ 9223372036854775807) ∧ s.length ≤ maxLen ∧
      Rd W A (l.map I64) ∧ l.length ≤ maxLen ∧ (∀ n ∈ l, -9223372036854775808 ≤ n ∧ n ≤ 9223372036854775807) ∧ l.length ≤ c := by
  obtain ⟨v0, v1, v2, y0, y1, y2, m, rfl, _, _, g0, g1, g2⟩ := Joins.open_agg3 hs hone hC hv h
  obtain ⟨n, rfl, bn⟩ := fld_i64 h0 g0
  obtain ⟨s, rfl, bs⟩ := fld_string h1 g1
  obtain ⟨A, l, c, rfl, q1, q2, q3, q4⟩ := fld_ints h2 he hc g2
  exact ⟨n, s, A, l, c, rfl, bn, bs, q1, q2, q3, q4⟩
end
end Go.Proofs.YtfjiikcbcoohdaaDoor
