/-
  A slice that grows by append over several steps ('Gr'): only its own block is written, or a new one. Conditions: none; plain lemmas.
-/
import Derived.Test.YtfjiikcbcoohdaaDoorAppend
import Derived.Maps.Range
namespace Go.Proofs.YtfjiikcbcoohdaaDoor
open Go.RowKit
set_option linter.unusedVariables false

/-- from v in w to v' in w': only v's own block and new blocks were written -/
structure Gr (base : Nat) (v : Value) (w : World) (v' : Value) (w' : World) : Prop where
  gb : w.grownBy w' v.ownBlock
  fr : ∀ k, v'.ownBlock = some k → v.ownBlock = some k ∨ w.heap.size ≤ k
  bel : Below base w w'

theorem Gr.refl (base : Nat) (v : Value) (w : World) : Gr base v w v w := ⟨World.grownBy.refl w _, fun _ h => .inl h, Below.refl _ _⟩
theorem Gr.trans {base : Nat} {v v' v'' : Value} {w w' w'' : World} (h : Gr base v w v' w') (k : Gr base v' w' v'' w'') : Gr base v w v'' w'' :=
  ⟨h.gb.andThen k.gb (fun j hj => (h.fr j hj).symm), fun j hj => by
    rcases k.fr j hj with h1 | h1
    · exact h.fr j h1
    · exact .inr (Nat.le_trans h.gb.size h1), h.bel.trans k.bel⟩
theorem Gr.alloc {base : Nat} {v v' : Value} {w w' : World} (h : Gr base v w v' w') (hb : base ≤ w.heap.size) (o : Obj) : Gr base v w v' (w'.alloc o) :=
  h.trans ⟨World.grownBy_alloc _ _ _, fun _ h => .inl h, (Below.refl _ _).alloc (Nat.le_trans hb h.bel.size) o⟩

/-- the memory that B reads is not v's own block -/
def Apart (B : Option Addr) (l : List Value) (v : Value) : Prop := l ≠ [] → ∀ b off, B = some ⟨b, off, none⟩ → v.ownBlock ≠ some b
theorem Gr.rd {base : Nat} {v v' : Value} {w w' : World} {B : Option Addr} {l : List Value} (h : Gr base v w v' w') (hr : Rd w B l) (ha : Apart B l v) : Rd w' B l := by
  intro hl
  obtain ⟨b, off, e, hb, hc⟩ := hr hl
  refine ⟨b, off, e, Nat.lt_of_lt_of_le hb h.gb.size, fun j u hu => h.gb.cell (hc j u hu) ?_⟩
  exact fun e' => ha hl b off e e'.symm
theorem Gr.apart {base : Nat} {v v' : Value} {w w' : World} {B : Option Addr} {l : List Value} (h : Gr base v w v' w') (hr : Rd w B l) (ha : Apart B l v) : Apart B l v' := by
  intro hl b off e hk
  obtain ⟨b', off', e', hb, _⟩ := hr hl
  rw [e] at e'
  injection e' with e'
  injection e' with e1 e2
  subst e1
  rcases h.fr b hk with h1 | h1
  · exact ha hl b off e h1
  · omega
/-- a slice whose own block, if it has one, lies from base on -/
def Fresh (base : Nat) (v : Value) : Prop := ∀ k, v.ownBlock = some k → base ≤ k
theorem Fresh.apart {B : Option Addr} {l : List Value} {base : Nat} {v : Value} {w0 : World} (h : Fresh base v) (hr : Rd w0 B l) (h0 : w0.heap.size ≤ base) : Apart B l v := by
  intro hl b off eB hk
  obtain ⟨b', off', e', hb, _⟩ := hr hl
  rw [eB] at e'
  injection e' with e'
  injection e' with e1 e2
  subst e1
  have := h b hk
  omega
theorem Gr.fresh {base b0 : Nat} {v v' : Value} {w w' : World} (h : Gr base v w v' w') (hf : Fresh b0 v) (h0 : b0 ≤ w.heap.size) : Fresh b0 v' := by
  intro k hk
  rcases h.fr k hk with h1 | h1
  · exact hf k h1
  · omega

theorem Own.fresh {w : World} {base : Nat} {e : TypeId} {size : Nat} {v : Value} {n : Nat} {xs : List Value} (h : Own w base e size v n xs) : Fresh base v := fun k hk => (h.lt k hk).1
/-- the call returns the slice v grown to the elements l' (a list of elements f) -/
def RetGr {α : Type} (f : α → Value) (e : TypeId) (base : Nat) (v : Value) (l' : List α) (w : World) (en : Ending) (w' : World) : Prop :=
  ∃ A c, en = .returned (.slice A l'.length c) ∧ Own w' base e 1 (.slice A l'.length c) l'.length (l'.map f) ∧ Gr base v w (.slice A l'.length c) w'
/-- the call returns a new slice of the elements l -/
def RetNew {α : Type} (f : α → Value) (e : TypeId) (l : List α) (w : World) (en : Ending) (w' : World) : Prop :=
  ∃ A c, en = .returned (.slice A l.length c) ∧ Own w' w.heap.size e 1 (.slice A l.length c) l.length (l.map f) ∧ Below w.heap.size w w'
theorem RetNew.rd {α : Type} {f : α → Value} {e : TypeId} {l : List α} {w : World} {en : Ending} {w' : World} (h : RetNew f e l w en w') :
    ∃ A c, en = .returned (.slice A l.length c) ∧ Rd w' A (l.map f) ∧ Below w.heap.size w w' := by
  obtain ⟨A, c, e, h1, h2⟩ := h
  obtain ⟨A', c', e', _, h3⟩ := h1.rd
  injection e' with e1 e2 e3
  subst e1
  exact ⟨A, c, e, h3, h2⟩
theorem Own.rd' {w : World} {base : Nat} {e : TypeId} {size : Nat} {A : Option Addr} {c n : Nat} {xs : List Value} (h : Own w base e size (.slice A n c) n xs) : Rd w A xs := by
  obtain ⟨A', c', e', _, h3⟩ := h.rd
  injection e' with e1 e2 e3
  subst e1
  exact h3
end Go.Proofs.YtfjiikcbcoohdaaDoor
