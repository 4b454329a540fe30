/-
  append onto a slice that is the call's own, or that has no room at all ('Own'), whatever the source ('Rd'). Conditions: the bounds on sizes that the model's append has.
  A slice that grows by append over several steps ('Gr'): only its own block is written, or a new one. Conditions: none; plain lemmas.
-/
import Derived.Test.YtcomeidcmcegfaaGreatDoorBase
import Derived.Maps.AppendAt
import Derived.Deep.AppendLies
import Derived.RegionTactic
import Derived.OwnWalk
import Derived.ArgAppend
import Derived.Maps.Range
namespace Go.Proofs.YtcomeidcmcegfaaGreatDoor
open Go.RowKit
set_option linter.unusedVariables false
def Own (w : World) (base : Nat) (e : TypeId) (size : Nat) (v : Value) (n : Nat) (xs : List Value) : Prop :=
 w.ownsRow base e size v n xs ∨ (n = 0 ∧ xs = [] ∧ ∃ a : Addr, v = .slice (some a) 0 0 ∧ base ≤ a.block ∧ a.block < w.heap.size)
theorem add_plain (b off j : Nat) : (⟨b, off, none⟩ : Addr).add j = ⟨b, off + j, none⟩ := by
 unfold Addr.add; split <;> simp_all
section
variable {w w' : World} {base : Nat} {e : TypeId} {size : Nat} {v : Value} {n : Nat} {xs : List Value}
theorem Own.nil (w : World) (base : Nat) (e : TypeId) (size : Nat) : Own w base e size (.slice none 0 0) 0 [] := .inl (World.ownsRow_nil w base e size)
theorem Own.len (h : Own w base e size v n xs) : xs.length = n * size := by
 rcases h with h | ⟨rfl, rfl, _⟩
 ·exact h.1
 ·simp
theorem Own.form (h : Own w base e size v n xs) : ∃ A c, v = .slice A n c ∧ n ≤ c ∧ (0 < n → ∃ g, A = some ⟨g, 0, none⟩ ∧ base ≤ g) := by
 rcases h with h | ⟨rfl, rfl, a, rfl, _⟩
 ·rcases h.2 with ⟨rfl, rfl⟩ | ⟨g, cap, cur, rfl, hb, _, hc, _⟩
  ·exact ⟨none, 0, rfl, Nat.le_refl _, fun h => by omega⟩
  ·exact ⟨_, cap, rfl, hc, fun _ => ⟨g, rfl, hb⟩⟩
 ·exact ⟨some a, 0, rfl, Nat.le_refl _, fun h => by omega⟩
theorem Own.slot {A : Option Addr} {c : Nat} (h : Own w base e size (.slice A n c) n xs) (hn : 0 < n) :
 ∃ g, A = some ⟨g, 0, none⟩ ∧ base ≤ g ∧ g < w.heap.size ∧ w.ownsRow base e size (.slice (some ⟨g, 0, none⟩) n c) n xs := by
 rcases h with h | ⟨h0, _⟩
 ·rcases h.2 with ⟨_, h0⟩ | ⟨g, cap, cur, hv, hb, hg, _⟩
  ·omega
  ·injection hv with e1 e2 e3
   subst e1
   refine ⟨g, rfl, hb, ?_, h⟩
   rcases Nat.lt_or_ge g w.heap.size with hlt | hge
   ·exact hlt
   ·rw [Array.getElem?_eq_none hge] at hg; cases hg
 ·omega
theorem Own.rd (h : Own w base e size v n xs) : ∃ A c, v = .slice A n c ∧ n ≤ c ∧ Rd w A xs := by
 rcases h with h | ⟨rfl, rfl, a, rfl, _⟩
 ·rcases h.2 with ⟨rfl, rfl⟩ | ⟨g, cap, cur, rfl, hb, hg, hc, _⟩
  ·have : xs = [] := List.eq_nil_of_length_eq_zero (by have := h.1; omega)
   subst this
   exact ⟨none, 0, rfl, Nat.le_refl _, Rd.nil _ _⟩
  ·refine ⟨_, cap, rfl, hc, fun hne => ⟨g, 0, rfl, ?_, fun j u hu => ?_⟩⟩
   ·rcases Nat.lt_or_ge g w.heap.size with hlt | hge
    ·exact hlt
    ·rw [Array.getElem?_eq_none hge] at hg; cases hg
   ·have := h.cells (g := g) rfl j u hu
    rwa [add_plain] at this
 ·exact ⟨some a, 0, rfl, Nat.le_refl _, Rd.nil _ _⟩
theorem Own.kept {row : Option Nat} (h : Own w base e size v n xs) (hg : w.grownBy w' row) (hne : v.ownBlock = none ∨ v.ownBlock ≠ row) : Own w' base e size v n xs := by
 rcases h with h | ⟨h1, h2, a, h3, h4, h5⟩
 ·exact .inl (h.kept hg hne)
 ·exact .inr ⟨h1, h2, a, h3, h4, Nat.lt_of_lt_of_le h5 hg.size⟩
theorem Own.below {B : Nat} (h : Own w base e size v n xs) (hb : Below w.heap.size w w') : Own w' base e size v n xs := by
 rcases h with h | ⟨h1, h2, a, h3, h4, h5⟩
 ·refine .inl ⟨h.1, ?_⟩
  rcases h.2 with h0 | ⟨g, cap, cur, hv, hbg, hg, r⟩
  ·exact .inl h0
  ·refine .inr ⟨g, cap, cur, hv, hbg, ?_, r⟩
   rw [hb.block g ?_, hg]
   rcases Nat.lt_or_ge g w.heap.size with hlt | hge
   ·exact hlt
   ·rw [Array.getElem?_eq_none hge] at hg; cases hg
 ·exact .inr ⟨h1, h2, a, h3, h4, Nat.lt_of_lt_of_le h5 hb.size⟩
theorem Own.drew (h : Own w base e size v n xs) : Own w.drew base e size v n xs := h
theorem Own.alloc (h : Own w base e size v n xs) (o : Obj) : Own (w.alloc o) base e size v n xs := h.below (B := 0) ((Below.refl _ _).alloc (Nat.le_refl _) o)
theorem Own.lower {b' : Nat} (h : Own w base e size v n xs) (hb : b' ≤ base) : Own w b' e size v n xs := by
 rcases h with h | ⟨h1, h2, a, h3, h4, h5⟩
 ·refine .inl ⟨h.1, ?_⟩
  rcases h.2 with h0 | ⟨g, cap, cur, hv, hbg, r⟩
  ·exact .inl h0
  ·exact .inr ⟨g, cap, cur, hv, by omega, r⟩
 ·exact .inr ⟨h1, h2, a, h3, Nat.le_trans hb h4, h5⟩
theorem Own.lt (h : Own w base e size v n xs) : ∀ k, v.ownBlock = some k → base ≤ k ∧ k < w.heap.size := by
 rcases h with h | ⟨h1, h2, a, rfl, h4, h5⟩
 ·exact fun k hk => h.lt k hk
 ·intro k hk
  have hk : some a.block = some k := hk
  injection hk with hk
  omega
end
section
variable {P : Program} (w : World)
theorem run_append_Own (base : Nat) (t ty e : TypeId) (i : TypeInfo) (z : Value) (size bytes : Nat) (ht : P.underlying t = some (.slice e)) (hi : P.info? e = some i) (hz : i.zero = some z)
 (hsize : i.size = size) (hby : i.bytes = bytes) (hzs : z.cells.size = size) (hsz : 0 < size)
 (v : Value) (n : Nat) (xs : List Value) (hown : Own w base e size v n xs)
 (A : Option Addr) (m c : Nat) (news : List Value) (hl : news.length = m * size) (hr : Rd w A news) (h1 : ∀ u ∈ news, u.oneCell' = true)
 (h63 : n + m ≤ maxLen) (hbytes : (n + m) * bytes ≤ 140737488355328) (hbase : base ≤ w.heap.size) :
 ∃ v' w', (Builtin.append_ #[t, t] ty #[v, .slice A m c]).run P w = .ok v' w' ∧ Own w' base e size v' (n + m) (xs ++ news) ∧ w.grownBy w' v.ownBlock ∧ Below base w w' ∧
  (∀ k, v'.ownBlock = some k → v.ownBlock = some k ∨ w.heap.size ≤ k) := by
 have hm0 : news = [] → m = 0 := by
  intro e0; rw [e0] at hl; have h2 : m * size = 0 := hl.symm; rcases Nat.mul_eq_zero.1 h2 with h | h <;> omega
 have zero : ∀ (A' : Option Addr) (v : Value), m = 0 → Own w base e size v n xs → ∃ v' w', (Builtin.append_ #[t, t] ty #[v, .slice A' m c]).run P w = .ok v' w' ∧ Own w' base e size v' (n + m) (xs ++ news) ∧ w.grownBy w' v.ownBlock ∧ Below base w w' ∧
  (∀ k, v'.ownBlock = some k → v.ownBlock = some k ∨ w.heap.size ≤ k) := by
  intro A' v hm hown
  subst hm
  have hn : news = [] := List.eq_nil_of_length_eq_zero (by simpa using hl)
  subst hn
  refine ⟨v, w, ?_, by simpa using hown, World.grownBy.refl w _, Below.refl _ _, fun k hk => .inl hk⟩
  have hld : ∀ a, (loadCells a 0).run P w = .ok #[] w := fun a => run_loadCells_list w a [] (by simp)
  obtain ⟨A, c', rfl, hc', _⟩ := hown.form
  cases A <;> cases A' <;> simp [Builtin.append_, run_underlying ht, sizeOf, typeInfo, hi, Builtin.lenOf, Builtin.firstCells, hc', storeCells, hld]
 rcases A with _ | ad
 ·have hn : m = 0 := hm0 (by
   rcases news with _ | ⟨x, l⟩
   ·rfl
   ·obtain ⟨_, _, e, _⟩ := hr (by simp); cases e)
  exact zero none v hn hown
 ·by_cases hm : m = 0
  ·exact zero (some ad) v hm hown
  have hne : news ≠ [] := fun h => hm (hm0 h)
  obtain ⟨b, off, hA, hb, hc⟩ := hr hne
  cases hA
  have hcells : ∀ j u, news[j]? = some u → w.cell? ((⟨b, off, none⟩ : Addr).add j) = some u := fun j u hu => by rw [add_plain]; exact hc j u hu
  rcases hown with hown | ⟨rfl, rfl, a, rfl, ha1, ha2⟩
  ·obtain ⟨v', w', hrun, h2, h3, _, h5⟩ := run_append_own_at (P := P) w base t ty e i z size bytes ht hi hz hsize hby hzs hsz v n xs hown _ m c news hl hcells h1 h63 hbytes hbase
   exact ⟨v', w', hrun, .inl h2, h3, (Below.refl _ _).grown h3 hbase (fun k hk => (hown.lt k hk).1), fun k hk => by
    rcases h5 with h5 | h5
    ·exact .inl (h5 ▸ hk)
    ·rw [h5] at hk; cases hk; exact .inr (Nat.le_refl _)⟩
  ·obtain ⟨v', w', hrun, h2, h3⟩ := run_append_arg_grows (P := P) w t ty e i z size bytes ht hi hz hsize hby hzs hsz a 0 0 [] (by simp) (by simp) ⟨b, off, none⟩ m c news hl hcells (by omega) h63 hbytes
   refine ⟨v', w', hrun, (Own.lower (.inl h2) hbase), ⟨h3.os, h3.tape, h3.output, h3.size, fun k hk _ => h3.block k hk (by simp)⟩, (Below.refl _ _).grown h3 hbase (by simp), fun k hk => .inr (h2.lt k hk).1⟩
theorem wp_append_Own {o : Oper} {a : Act} {K : Act → World → Prop} {Q : Exit → Act → World → Prop} (s x : Operand) (t : TypeId)
 (ho : o.op = .call { callee := .builtin .append, args := #[s, x], argTypes := #[t, t] })
 (base : Nat) (e : TypeId) (i : TypeInfo) (z : Value) (size bytes : Nat) (ht : P.underlying t = some (.slice e)) (hi : P.info? e = some i) (hz : i.zero = some z)
 (hsize : i.size = size) (hby : i.bytes = bytes) (hzs : z.cells.size = size) (hsz : 0 < size)
 (v : Value) (n : Nat) (xs : List Value) (hs : a.eval s = v) (hown : Own w base e size v n xs)
 (A : Option Addr) (m c : Nat) (news : List Value) (hx : a.eval x = .slice A m c) (hl : news.length = m * size) (hr : Rd w A news) (h1 : ∀ u ∈ news, u.oneCell' = true)
 (h63 : n + m ≤ maxLen) (hbytes : (n + m) * bytes ≤ 140737488355328) (hbase : base ≤ w.heap.size)
 (h : ∀ v' w', Own w' base e size v' (n + m) (xs ++ news) → w.grownBy w' v.ownBlock → Below base w w' → (∀ k, v'.ownBlock = some k → v.ownBlock = some k ∨ w.heap.size ≤ k) → K (a.put o.dst v') w') : o.wp P a w K Q := by
 obtain ⟨v', w', hrun, h2, h3, h4, h5⟩ := run_append_Own (P := P) w base t o.type e i z size bytes ht hi hz hsize hby hzs hsz v n xs hown A m c news hl hr h1 h63 hbytes hbase
 unfold Oper.wp execOp
 simp only [ho, resolve, invoke, builtin, Sem.run_bind, Sem.run_pure, Result.andThen_ok, List.map_toArray, List.map_cons, List.map_nil, hs, hx, hrun]
 exact h v' w' h2 h3 h4 h5
theorem wpList_append_Own {ops : Array Oper} {rest : List Oper} {o : Oper} {a : Act} {Q : Exit → Act → World → Prop} (hgd : o.guard = none) (s x : Operand) (t : TypeId)
 (ho : o.op = .call { callee := .builtin .append, args := #[s, x], argTypes := #[t, t] })
 (base : Nat) (e : TypeId) (i : TypeInfo) (z : Value) (size bytes : Nat) (ht : P.underlying t = some (.slice e)) (hi : P.info? e = some i) (hz : i.zero = some z)
 (hsize : i.size = size) (hby : i.bytes = bytes) (hzs : z.cells.size = size) (hsz : 0 < size)
 (v : Value) (n : Nat) (xs : List Value) (hs : a.eval s = v) (hown : Own w base e size v n xs)
 (A : Option Addr) (m c : Nat) (news : List Value) (hx : a.eval x = .slice A m c) (hl : news.length = m * size) (hr : Rd w A news) (h1 : ∀ u ∈ news, u.oneCell' = true)
 (h63 : n + m ≤ maxLen) (hbytes : (n + m) * bytes ≤ 140737488355328) (hbase : base ≤ w.heap.size)
 (h : ∀ v' w', Own w' base e size v' (n + m) (xs ++ news) → w.grownBy w' v.ownBlock → Below base w w' → (∀ k, v'.ownBlock = some k → v.ownBlock = some k ∨ w.heap.size ≤ k) → wpList P ops Q rest (a.put o.dst v') w') : wpList P ops Q (o :: rest) a w :=
 wpList_plain hgd fun _ hK => wp_append_Own w s x t ho base e i z size bytes ht hi hz hsize hby hzs hsz v n xs hs hown A m c news hx hl hr h1 h63 hbytes hbase fun v' w' h2 h3 h4 h5 => hK _ _ (h v' w' h2 h3 h4 h5)
end
theorem wpList_append_map {P : Program} (w : World) {α : Type} (f : α → Value) (hf : ∀ x, (f x).oneCell' = true)
 {ops : Array Oper} {rest : List Oper} {o : Oper} {a : Act} {Q : Exit → Act → World → Prop} (hgd : o.guard = none) (s x : Operand) (t : TypeId)
 (ho : o.op = .call { callee := .builtin .append, args := #[s, x], argTypes := #[t, t] })
 (base : Nat) (e : TypeId) (i : TypeInfo) (z : Value) (bytes : Nat) (ht : P.underlying t = some (.slice e)) (hi : P.info? e = some i) (hz : i.zero = some z)
 (hsize : i.size = 1) (hby : i.bytes = bytes) (hzs : z.cells.size = 1)
 (A : Option Addr) (c : Nat) (l : List α) (hs : a.eval s = .slice A l.length c) (hown : Own w base e 1 (.slice A l.length c) l.length (l.map f))
 (B : Option Addr) (d : Nat) (m : List α) (hx : a.eval x = .slice B m.length d) (hr : Rd w B (m.map f))
 (h63 : l.length + m.length ≤ maxLen) (hbytes : (l.length + m.length) * bytes ≤ 140737488355328) (hbase : base ≤ w.heap.size)
 (h : ∀ (A' : Option Addr) (c' : Nat) (l' : List α) (w' : World), Hid (l' = l ++ m) → Own w' base e 1 (.slice A' l'.length c') l'.length (l'.map f) → Rd w' A' (l'.map f) → w.grownBy w' (Value.slice A l.length c).ownBlock → Below base w w' →
  (∀ k, (Value.slice A' l'.length c').ownBlock = some k → (Value.slice A l.length c).ownBlock = some k ∨ w.heap.size ≤ k) → wpList P ops Q rest (a.put o.dst (.slice A' l'.length c')) w') : wpList P ops Q (o :: rest) a w := by
 refine wpList_append_Own w hgd s x t ho base e i z 1 bytes ht hi hz hsize hby hzs (by omega) _ l.length (l.map f) hs hown B m.length d (m.map f) hx (by simp) hr
  (fun u hu => by obtain ⟨y, _, rfl⟩ := List.mem_map.1 hu; exact hf y) h63 hbytes hbase fun v' w' h2 h3 h4 h5 => ?_
 obtain ⟨A', c', hv, _, hrd⟩ := h2.rd
 have e1 : l.length + m.length = (l ++ m).length := by simp
 rw [← List.map_append] at h2 hrd
 rw [hv, e1]
 rw [hv, e1] at h2 h5
 exact h A' c' (l ++ m) w' rfl h2 hrd h3 h4 h5
theorem U8_one (c : UInt8) : (U8 c).oneCell' = true := rfl
theorem I64_one (n : Int) : (I64 n).oneCell' = true := rfl
theorem u8_one (l : List UInt8) : ∀ u ∈ l.map U8, u.oneCell' = true := by
 intro u hu; obtain ⟨c, _, rfl⟩ := List.mem_map.1 hu; rfl
end Go.Proofs.YtcomeidcmcegfaaGreatDoor
namespace Go.Proofs.YtcomeidcmcegfaaGreatDoor
open Go.RowKit
set_option linter.unusedVariables false
structure Gr (base : Nat) (v : Value) (w : World) (v' : Value) (w' : World) : Prop where
 gb : w.grownBy w' v.ownBlock
 fr : ∀ k, v'.ownBlock = some k → v.ownBlock = some k ∨ w.heap.size ≤ k
 bel : Below base w w'
theorem Gr.refl (base : Nat) (v : Value) (w : World) : Gr base v w v w := ⟨World.grownBy.refl w _, fun _ h => .inl h, Below.refl _ _⟩
theorem Gr.trans {base : Nat} {v v' v'' : Value} {w w' w'' : World} (h : Gr base v w v' w') (k : Gr base v' w' v'' w'') : Gr base v w v'' w'' :=
 ⟨h.gb.andThen k.gb (fun j hj => (h.fr j hj).symm), fun j hj => by
  rcases k.fr j hj with h1 | h1
  ·exact h.fr j h1
  ·exact .inr (Nat.le_trans h.gb.size h1), h.bel.trans k.bel⟩
theorem Gr.alloc {base : Nat} {v v' : Value} {w w' : World} (h : Gr base v w v' w') (hb : base ≤ w.heap.size) (o : Obj) : Gr base v w v' (w'.alloc o) :=
 h.trans ⟨World.grownBy_alloc _ _ _, fun _ h => .inl h, (Below.refl _ _).alloc (Nat.le_trans hb h.bel.size) o⟩
def Apart (B : Option Addr) (l : List Value) (v : Value) : Prop := l ≠ [] → ∀ b off, B = some ⟨b, off, none⟩ → v.ownBlock ≠ some b
theorem Gr.rd {base : Nat} {v v' : Value} {w w' : World} {B : Option Addr} {l : List Value} (h : Gr base v w v' w') (hr : Rd w B l) (ha : Apart B l v) : Rd w' B l := by
 intro hl
 obtain ⟨b, off, e, hb, hc⟩ := hr hl
 refine ⟨b, off, e, Nat.lt_of_lt_of_le hb h.gb.size, fun j u hu => h.gb.cell (hc j u hu) ?_⟩
 exact fun e' => ha hl b off e e'.symm
theorem Gr.apart {base : Nat} {v v' : Value} {w w' : World} {B : Option Addr} {l : List Value} (h : Gr base v w v' w') (hr : Rd w B l) (ha : Apart B l v) : Apart B l v' := by
 intro hl b off e hk
 obtain ⟨b', off', e', hb, _⟩ := hr hl
 rw [e] at e'
 injection e' with e'
 injection e' with e1 e2
 subst e1
 rcases h.fr b hk with h1 | h1
 ·exact ha hl b off e h1
 ·omega
def Fresh (base : Nat) (v : Value) : Prop := ∀ k, v.ownBlock = some k → base ≤ k
theorem Fresh.apart {B : Option Addr} {l : List Value} {base : Nat} {v : Value} {w0 : World} (h : Fresh base v) (hr : Rd w0 B l) (h0 : w0.heap.size ≤ base) : Apart B l v := by
 intro hl b off eB hk
 obtain ⟨b', off', e', hb, _⟩ := hr hl
 rw [eB] at e'
 injection e' with e'
 injection e' with e1 e2
 subst e1
 have := h b hk
 omega
def RetGr {α : Type} (f : α → Value) (e : TypeId) (base : Nat) (v : Value) (l' : List α) (w : World) (en : Ending) (w' : World) : Prop :=
 ∃ A c, en = .returned (.slice A l'.length c) ∧ Own w' base e 1 (.slice A l'.length c) l'.length (l'.map f) ∧ Gr base v w (.slice A l'.length c) w'
def RetNew {α : Type} (f : α → Value) (e : TypeId) (l : List α) (w : World) (en : Ending) (w' : World) : Prop :=
 ∃ A c, en = .returned (.slice A l.length c) ∧ Own w' w.heap.size e 1 (.slice A l.length c) l.length (l.map f) ∧ Below w.heap.size w w'
theorem RetNew.rd {α : Type} {f : α → Value} {e : TypeId} {l : List α} {w : World} {en : Ending} {w' : World} (h : RetNew f e l w en w') :
 ∃ A c, en = .returned (.slice A l.length c) ∧ Rd w' A (l.map f) ∧ Below w.heap.size w w' := by
 obtain ⟨A, c, e, h1, h2⟩ := h
 obtain ⟨A', c', e', _, h3⟩ := h1.rd
 injection e' with e1 e2 e3
 subst e1
 exact ⟨A, c, e, h3, h2⟩
theorem Own.rd' {w : World} {base : Nat} {e : TypeId} {size : Nat} {A : Option Addr} {c n : Nat} {xs : List Value} (h : Own w base e size (.slice A n c) n xs) : Rd w A xs := by
 obtain ⟨A', c', e', _, h3⟩ := h.rd
 injection e' with e1 e2 e3
 subst e1
 exact h3
end Go.Proofs.YtcomeidcmcegfaaGreatDoor
