/-
  Words for memory that every walk of this family uses: a slice value that reads as a list of cells ('Rd'), bytes ('U8') and ints ('I64') as cells, and how such a reading is kept. Conditions: none; plain lemmas.
-/
import Derived.WalkKit
import Derived.WalkSpells
import Derived.WalkLawsBesides
import Derived.Laws.BitsAllLaws
import Derived.Lib.Hide
namespace Go.Proofs.YtcomeidcmcegfaaGreatDoor
open Go.RowKit
set_option linter.unusedVariables false
def U8 (c : UInt8) : Value := .int .u8 c.toNat
def I64 (n : Int) : Value := .int .i64 n
def Rd (w : World) (A : Option Addr) (l : List Value) : Prop :=
 l ≠ [] → ∃ b off, A = some ⟨b, off, none⟩ ∧ b < w.heap.size ∧ ∀ j u, l[j]? = some u → w.cell? ⟨b, off + j, none⟩ = some u
theorem Rd.nil (w : World) (A : Option Addr) : Rd w A [] := fun h => absurd rfl h
theorem Rd.keep {w w' : World} {A : Option Addr} {l : List Value} (h : Rd w A l) (hs : w.heap.size ≤ w'.heap.size)
 (hk : ∀ p : Addr, p.block < w.heap.size → w'.cell? p = w.cell? p) : Rd w' A l := by
 intro hl
 obtain ⟨b, off, e, hb, hc⟩ := h hl
 exact ⟨b, off, e, by omega, fun j u hu => (hk _ hb).trans (hc j u hu)⟩
theorem Rd.below {w w' : World} {A : Option Addr} {l : List Value} (h : Rd w A l) (hb : Below w.heap.size w w') : Rd w' A l :=
 h.keep hb.size fun _ hp => hb.cell hp
theorem Rd.alloc {w : World} {A : Option Addr} {l : List Value} (h : Rd w A l) (o : Obj) : Rd (w.alloc o) A l :=
 h.below ((Below.refl _ _).alloc (Nat.le_refl _) o)
theorem Rd.drew {w : World} {A : Option Addr} {l : List Value} (h : Rd w A l) : Rd w.drew A l := h
theorem Rd.at8 {w : World} {A : Option Addr} {l : List UInt8} (h : Rd w A (l.map U8)) {k : Nat} (hk : k < l.length) :
 ∃ b off, A = some ⟨b, off, none⟩ ∧ b < w.heap.size ∧ w.cell? ⟨b, off + k, none⟩ = some (.int .u8 (l[k].toNat : Int)) := by
 obtain ⟨b, off, e, hb, hc⟩ := h (by intro e; simp at e; subst e; simp at hk)
 exact ⟨b, off, e, hb, hc k _ (by simp [hk, U8])⟩
theorem Rd.at64 {w : World} {A : Option Addr} {l : List Int} (h : Rd w A (l.map I64)) {k : Nat} (hk : k < l.length) :
 ∃ b off, A = some ⟨b, off, none⟩ ∧ b < w.heap.size ∧ w.cell? ⟨b, off + k, none⟩ = some (.int .i64 l[k]) := by
 obtain ⟨b, off, e, hb, hc⟩ := h (by intro e; simp at e; subst e; simp at hk)
 exact ⟨b, off, e, hb, hc k _ (by simp [hk, I64])⟩
theorem Rd.new (w : World) (l : List Value) (t : TypeId) (m : Nat × Nat) : Rd (w.alloc (.cells l.toArray t m)) (some ⟨w.heap.size, 0, none⟩) l := by
 intro _
 refine ⟨_, 0, rfl, by simp, fun j u hu => ?_⟩
 rw [Nat.zero_add, cell_of_row _ _ _ _ _ _ (heap_alloc_new w _)]
 simpa using hu
theorem Rd.newAt (w : World) (l : List Value) (t : TypeId) (m : Nat × Nat) (n : Nat) (h : n = w.heap.size) : Rd (w.alloc (.cells l.toArray t m)) (some ⟨n, 0, none⟩) l := by
 subst h; exact Rd.new w l t m
theorem Rd.newAtD (w : World) (l : List Value) (t : TypeId) (m : Nat × Nat) (n : Nat) (h : n = w.heap.size) : Rd (w.alloc (.cells l.toArray t m)).drew (some ⟨n, 0, none⟩) l := by
 subst h; exact Rd.new w l t m
theorem run_str {P : Program} (w : World) (src dst e : TypeId) (hs : P.underlying src = some (.slice e)) (he : P.underlying e = some (.int .u8)) (hd : P.underlying dst = some .string)
 (A : Option Addr) (c : Nat) (l : List UInt8) (h : Rd w A (l.map U8)) : (convert src dst (.slice A l.length c)).run P w = .ok (.string ⟨l.toArray⟩) w := by
 rcases A with _ | a
 ·have hl : l = [] := by
   rcases l with _ | ⟨x, l⟩
   ·rfl
   ·obtain ⟨_, _, e, _⟩ := h (by simp); cases e
  subst hl
  exact run_convert_bytes_nil w src e hs he _ c dst hd
 ·refine run_convert_bytes_back w src dst e a c l hs he hd fun j hj => ?_
  obtain ⟨b, off, e, _, hc⟩ := h.at8 hj
  cases e
  rw [← hc]
  congr 1
  unfold Addr.add
  split <;> simp_all
theorem ret_int {k : IntKind} {a b : Int} (h : a = b) : Ending.returned (.int k a) = .returned (.int k b) := by rw [h]
theorem ret_bool {a b : Bool} (h : a = b) : Ending.returned (.bool a) = .returned (.bool b) := by rw [h]
theorem int_eq {k : IntKind} {a b : Int} (h : a = b) : Value.int k a = .int k b := by rw [h]
end Go.Proofs.YtcomeidcmcegfaaGreatDoor
