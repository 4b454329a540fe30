/-
  A whole struct loaded out of, or stored into, a block of its own, in a region in written order: no unrolling of its cells. Conditions: the block is not frozen.
-/
import Derived.Test.YtfjiikcbcoohdaaDoorOpsRead
import Derived.Laws.Rows
import Derived.Laws.Tables
namespace Go.Proofs.YtfjiikcbcoohdaaDoor
open Go.RowKit
set_option linter.unusedVariables false
section
variable {P : Program} {w : World} {ops : Array Oper} {rest : List Oper} {o : Oper} {a : Act} {Q : Exit → Act → World → Prop}
theorem Blk.row {g : Nat} {ty : TypeId} {c : Array Value} (c' : Array Value) (h : Blk w g ty c) : Blk (w.setRow g c') g ty c' := by
  show (w.setRow g c').heap[g]? = _
  simp [World.setRow, Array.getElem?_modify, show w.heap[g]? = _ from h]
theorem grown_row (w : World) (g : Nat) (c' : Array Value) : w.grownBy (w.setRow g c') (some g) :=
  ⟨rfl, rfl, rfl, by simp [World.setRow], fun k _ hk => by
    show (w.setRow g c').heap[k]? = _
    have : g ≠ k := fun e => hk (by rw [e])
    simp [World.setRow, Array.getElem?_modify, this]⟩
theorem wpList_storeRow (hgd : o.guard = none) (t : TypeId) (p x : Operand) (ho : o.op = .store t p x) (g : Nat) (ty : TypeId) (c c' : Array Value) (hp : a.eval p = .pointer (some ⟨g, 0, none⟩)) (hx : a.eval x = .agg c')
    (hg : Blk w g ty c) (hi : (P.info? t).map (·.size) = some c'.size) (hs : c.size = c'.size) (h1 : c'.all (·.oneCell') = true)
    (h : ∀ W, Blk W g ty c' → w.grownBy W (some g) → wpList P ops Q rest (a.put o.dst undef) W) : wpList P ops Q (o :: rest) a w := by
  refine wpList_plain hgd fun _ hK => ?_
  have hrun := run_storeVar_row (P := P) w g ty t c c' hg hi hs h1
  unfold Oper.wp execOp
  simp only [ho, Instr.storeAt, Instr.sureAddr, Sem.run_bind, Sem.run_pure, Result.andThen_ok, hp, hx, hrun]
  exact hK _ _ (h _ (hg.row c') (grown_row w g c'))
theorem wpList_loadRow (hgd : o.guard = none) (t : TypeId) (p : Operand) (ho : o.op = .load t p) (g : Nat) (ty : TypeId) (c : Array Value) (d : TypeDesc) (hp : a.eval p = .pointer (some ⟨g, 0, none⟩))
    (hg : Blk w g ty c) (hu : P.underlying t = some d) (hd : (match d with | .struct _ | .array _ _ => true | _ => false) = true) (hi : (P.info? t).map (·.size) = some c.size)
    (h : wpList P ops Q rest (a.put o.dst (.agg c)) w) : wpList P ops Q (o :: rest) a w := by
  refine wpList_plain hgd fun _ hK => ?_
  have hrun := run_loadVar_row (P := P) w g ty t c (0, 0) d hg hu hd hi
  unfold Oper.wp execOp
  simp only [ho, Instr.loadAt, Instr.sureAddr, Sem.run_bind, Sem.run_pure, Result.andThen_ok, hp, hrun]
  exact hK _ _ h
theorem results_row {fn : Func} {tmps : Array Value} {x y g : Nat} {t : TypeId} {v u : Value} (hr : fn.results = #[.cell x t, .tmp y]) (hx : tmps.getD x undef = .pointer (some ⟨g, 0, none⟩)) (hy : tmps.getD y undef = u)
    (hl : (loadVar t ⟨g, 0, none⟩).run P w = .ok v w) : (results fn tmps).run P w = .ok (.tuple #[v, u]) w := by
  unfold results
  rw [hr]
  simp only [List.mapM_toArray, List.mapM_cons, List.mapM_nil, hx, hy, asAddr, Sem.run_bind, Sem.run_pure, Result.andThen_ok, hl, map_eq_pure_bind]
  rfl
theorem load_row {g : Nat} {t ty : TypeId} {c : Array Value} {d : TypeDesc} (hg : Blk w g ty c) (hu : P.underlying t = some d) (hd : (match d with | .struct _ | .array _ _ => true | _ => false) = true) (hi : (P.info? t).map (·.size) = some c.size) :
    (loadVar t ⟨g, 0, none⟩).run P w = .ok (.agg c) w := run_loadVar_row (P := P) w g ty t c (0, 0) d hg hu hd hi
end
end Go.Proofs.YtfjiikcbcoohdaaDoor
