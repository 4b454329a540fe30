/-
  The walk of From of layer 49. Conditions: fewer than a thousand million bytes; utf8's tables lie as their initialisers lay them.
-/
import Derived.Test.YtfjiikcbcoohdaaDoorFromPlain
import Derived.Test.YtfjiikcbcoohdaaDoorRow
import Derived.Deep.DeepCutAuto
namespace Go.Proofs.YtfjiikcbcoohdaaDoor
open Go.RowKit
set_option linter.unusedVariables false
set_option linter.unusedSimpArgs false

def zero15 : Array Value := (opC OP.zero none 0).toArray
/-- the memory of From: the result in the first block, the reader in the second, the operation in block B -/
structure FS (w : World) (B : Nat) (A : Option Addr) (c : Nat) (l : List UInt8) (o : OP) (Ao : Option Addr) (co : Nat) (q : Int × Int) (wr : World) : Prop where
  rz : Blk wr w.heap.size 30 zero15
  rd : Rdr wr (w.heap.size + 1) A c l q
  ob : Blk wr B 30 (opC o Ao co).toArray
  be : Below w.heap.size w wr
  lt : w.heap.size + 1 < B
section
variable {w wr wr' : World} {B : Nat} {A Ao : Option Addr} {c co : Nat} {l : List UInt8} {o o' : OP} {q q' : Int × Int}
theorem FS.read (h : FS w B A c l o Ao co q wr) (hg : Rdr wr' (w.heap.size + 1) A c l q') (g : wr.grownBy wr' (some (w.heap.size + 1))) : FS w B A c l o Ao co q' wr' :=
  ⟨h.rz.kept g (by simp), hg, h.ob.kept g (by have := h.lt; simp; omega), h.be.grown g h.be.size (fun k e => by cases e; omega), h.lt⟩
theorem FS.put (h : FS w B A c l o Ao co q wr) (i : Nat) (v : Value) (e : ((opC o Ao co).toArray.setIfInBounds i v) = (opC o' Ao co).toArray) : FS w B A c l o' Ao co q (wr.setCell ⟨B, i, none⟩ v) :=
  ⟨h.rz.kept (grown_set _ _ _ _) (by have := h.lt; simp; omega), Blk.kept h.rd (grown_set _ _ _ _) (by have := h.lt; simp; omega), by rw [← e]; exact h.ob.set i v,
    h.be.setCell (p := ⟨B, i, none⟩) (by have := h.lt; show w.heap.size ≤ B; omega) _, h.lt⟩
theorem FS.err (h : FS w B A c l o Ao co q wr) (e : Int) : FS w B A c l o Ao co (q.1, e) (wr.setCell ⟨w.heap.size + 1, 2, none⟩ (.int .i64 e)) :=
  h.read (Blk.set h.rd 2 (.int .i64 e)) (grown_set _ _ _ _)
theorem FS.up (h : FS w B A c l o Ao co q wr) (u : Up wr wr') : FS w B A c l o Ao co q wr' := ⟨h.rz.up u, Blk.up h.rd u, h.ob.up u, stepB h.be u.b, h.lt⟩
theorem FS.opAt (h : FS w B A c l o Ao co q wr) : OpAt wr B o Ao co := OpAt.of fun j u hu => by rw [h.ob.cell]; simpa using hu
end
theorem opOf_set (v : List Int) (x : Int) (h : v.length < 10) : (opC (opOf v) none 0).toArray.setIfInBounds v.length (.int .i64 x) = (opC (opOf (v ++ [x])) none 0).toArray := by
  rcases v with _ | ⟨a0, _ | ⟨a1, _ | ⟨a2, _ | ⟨a3, _ | ⟨a4, _ | ⟨a5, _ | ⟨a6, _ | ⟨a7, _ | ⟨a8, _ | ⟨a9, v⟩⟩⟩⟩⟩⟩⟩⟩⟩⟩
  all_goals first | rfl | (simp at h; omega)
theorem opOf_cell (v : List Int) (k : Nat) (h : k < 10) : ∃ x, (opC (opOf v) none 0).toArray[k]? = some (.int .i64 x) := by
  rcases k with _ | _ | _ | _ | _ | _ | _ | _ | _ | _ | k
  all_goals first | exact ⟨_, rfl⟩ | omega
def ptrs (B : Nat) : List Value := (List.range 8).map fun k => .pointer (some ⟨B, 2 + k, none⟩)
theorem ptrs_at (B k : Nat) (h : k < 8) : (ptrs B)[k]? = some (.pointer (some ⟨B, 2 + k, none⟩)) := by simp [ptrs, h]
def FromRel1 (w : World) (B : Nat) (A : Option Addr) (c : Nat) (l : List UInt8) (vi : Value) (wr : World) : Prop :=
  ∃ k : Nat, k ≤ 8 ∧ vi = .int .i64 k ∧ FS w B A c l (opOf (nR l (2 + k)).1) none 0 (nR l (2 + k)).2 wr ∧ Blk wr (B + 1) 62 (ptrs B).toArray

theorem info_st : (Tryd.prog.info? 23).map (fun i => (i.zero, i.size, i.bytes)) = some (some (.agg #[.int .i64 0, .int .i64 0]), 2, 16) := by kernel_rfl
theorem Own.farRow {w : World} {base : Nat} {e : TypeId} {size n g : Nat} {v : Value} {xs : List Value} (h : Own w base e size v n xs) (hg : g < base) : v.ownBlock = none ∨ v.ownBlock ≠ some g := by
  rcases hv : v.ownBlock with _ | k
  · exact .inl rfl
  · refine .inr fun e => ?_
    injection e with e
    have := (h.lt k hv).1
    omega
theorem FS.grown {w wr wr' : World} {B : Nat} {A Ao : Option Addr} {c co : Nat} {l : List UInt8} {o : OP} {q : Int × Int} {row : Option Nat} (h : FS w B A c l o Ao co q wr) (g : wr.grownBy wr' row) (hr : ∀ k, row = some k → B < k) : FS w B A c l o Ao co q wr' := by
  have hl := h.lt
  have ne : ∀ k, k ≤ B → some k ≠ row := fun k hk e => by have := hr k e.symm; omega
  exact ⟨h.rz.kept g (ne _ (by omega)), Blk.kept h.rd g (ne _ (by omega)), h.ob.kept g (ne _ (by omega)), h.be.grown g h.be.size (fun k e => by have := hr k e; omega), h.lt⟩
theorem FS.putOv {w wr : World} {B : Nat} {A Ao : Option Addr} {c co : Nat} {l : List UInt8} {o : OP} {q : Int × Int} {acc' : List (Int × Int)} (h : FS w B A c l o Ao co q wr) (A' : Option Addr) (c' : Nat) :
    FS w B A c l { o with ov := acc' } A' c' q (wr.setCell ⟨B, 14, none⟩ (.slice A' acc'.length c')) :=
  ⟨h.rz.kept (grown_set _ _ _ _) (by have := h.lt; simp; omega), Blk.kept h.rd (grown_set _ _ _ _) (by have := h.lt; simp; omega), h.ob.set 14 _,
    h.be.setCell (p := ⟨B, 14, none⟩) (by have := h.lt; show w.heap.size ≤ B; omega) _, h.lt⟩
theorem sz_set {n : Nat} {w : World} {p : Addr} {v : Value} (h : n ≤ w.heap.size) : n ≤ (w.setCell p v).heap.size := by simpa [World.setCell] using h
/-- an operation and an error code are handed back -/
def RetOp (o : OP) (n : Int) (w : World) (e : Ending) (w' : World) : Prop := ∃ A c, e = .returned (.tuple #[opV o A c, .int .i64 n]) ∧ Rd w' A (ovL o.ov) ∧ o.ov.length ≤ c ∧ Below w.heap.size w w'
theorem opC_one (o : OP) (A : Option Addr) (c : Nat) : ((opC o A c).toArray.all (·.oneCell')) = true := by simp [opC, Value.oneCell']
theorem getD_bd {v : List Int} (h : ∀ x ∈ v, I64b x) (i : Nat) : I64b (v.getD i 0) := by
  rw [List.getD_eq_getElem?_getD]
  rcases e : v[i]? with _ | x
  · exact ⟨by decide, by decide⟩
  · exact h x (List.mem_of_getElem? e)
theorem sGo_bd (l : List UInt8) (k : Nat) (q : Int × Int) : ∀ p ∈ (sGo l k q).1, I64b p.1 ∧ I64b p.2 := by
  induction k generalizing q with
  | zero => simp [sGo]
  | succ k ih =>
    intro p hp
    rw [sGo] at hp
    split at hp
    · rcases List.mem_cons.1 hp with rfl | hp
      · exact ⟨rN_bd _ _, rN_bd _ _⟩
      · exact ih _ p hp
    · simp at hp
theorem sGo_len (l : List UInt8) (k : Nat) (q : Int × Int) : (sGo l k q).1.length ≤ k := by
  induction k generalizing q with
  | zero => simp [sGo]
  | succ k ih =>
    rw [sGo]
    split
    · have := ih (rQ l (rQ l q)); simp; omega
    · simp
theorem fQ6_ok {l : List UInt8} (h : (fQ6 l).2 = 0) : 0 ≤ fN l ∧ fN l ≤ 16 := by
  unfold fQ6 at h
  split at h
  · simp at h
  · rename_i h'
    by_cases hn : 0 ≤ fN l ∧ fN l ≤ 16
    · exact hn
    · exact absurd ⟨h, by omega⟩ h'
theorem fS_len (l : List UInt8) : (fS l).1.length ≤ 16 := by
  unfold fS
  by_cases h : (fQ6 l).2 = 0
  · have := sGo_len l (fN l).toNat (fQ6 l)
    have := fQ6_ok h
    omega
  · rw [sGo_stop h]; simp
theorem fO_bd (l : List UInt8) (hl : l.length ≤ 1000000000) : (fO l).Bd := by
  have g := getD_bd (nR_bd l 10)
  exact ⟨g 0, g 1, g 2, g 3, g 4, g 5, g 6, g 7, g 8, g 9, rN_bd _ _, rN_bd _ _, by have := tN_bd l (fQ0 l); simp only [maxLen]; show (tN l (fQ0 l)).length ≤ _; omega,
    by have := tN_bd l (fQ3 l); simp only [maxLen]; show (tN l (fQ3 l)).length ≤ _; omega, sGo_bd _ _ _, by have := fS_len l; simp only [maxLen]; show (fS l).1.length ≤ _; omega⟩
theorem first2 (w : World) (A : Option Addr) (a b : Int) (c : Nat) (h : Rd w A [.int .i64 a, .int .i64 b]) : Calls Tryd.prog 28 #[.slice A 2 c] w fun e w' => e = .returned (.int .i64 (orE a b)) ∧ w = w' := by
  have := first_list w A [a, b] c h (by simp)
  refine this.mono ?_
  rintro e w' ⟨rfl, rfl⟩
  refine ⟨?_, rfl⟩
  simp only [firstE, orE]
  by_cases hb : b = 0 <;> simp [hb]
theorem ovL_append (l : List (Int × Int)) (x y : Int) : ovL (l ++ [(x, y)]) = ovL l ++ [.int .i64 x, .int .i64 y] := by simp [ovL]
def FromRel2 (w : World) (B : Nat) (A : Option Addr) (c : Nat) (l : List UInt8) (o : OP) (N : Int) (fs : List (Int × Int) × (Int × Int)) (vi : Value) (wr : World) : Prop :=
  ∃ (i : Nat) (acc : List (Int × Int)) (Ao : Option Addr) (co : Nat) (q : Int × Int), vi = .int .i64 i ∧ i ≤ 16 ∧ acc.length = i ∧ FS w B A c l { o with ov := acc } Ao co q wr ∧
    Own wr (B + 2) 23 2 (.slice Ao acc.length co) acc.length (ovL acc) ∧ Hid (fs = (acc ++ (sGo l (N.toNat - i) q).1, (sGo l (N.toNat - i) q).2)) ∧ Qok l q ∧ Hid (q.2 = 0 → N ≤ 16) ∧ B + 2 ≤ wr.heap.size

set_option maxRecDepth 100000 in
set_option maxHeartbeats 16000000 in
theorem from_any (w : World) (A : Option Addr) (c : Nat) (l : List UInt8) (h : Rd w A (l.map U8)) (hl : l.length ≤ 1000000000) (hlc : l.length ≤ c) (hT : Tabs w) :
    Calls Tryd.prog 18 #[.slice A l.length c] w (RetOp (fR l) (fE l) w) := by
  have hf : Far A (l.map U8) (w.heap.size + 1) := Far.of h (by omega)
  have kS := fun w' (a : Rdr w' (w.heap.size + 1) A c l (0, 0)) (b : Below w.heap.size w w') => stampRead_any w' (w.heap.size + 1) A c l (0, 0) a (h.below b) hf hl (nR_ok l 0)
  obtain ⟨W0, hW0⟩ : ∃ x, (w.alloc (.cells zero15 30)).alloc (.cells #[.slice A l.length c, .int .i64 0, .int .i64 0] 60) = x := ⟨_, rfl⟩
  have hb0 : Below w.heap.size w W0 := by rw [← hW0]; exact ((Below.refl _ _).alloc (Nat.le_refl _) _).alloc (by simp) _
  have hz0 : Blk W0 w.heap.size 30 zero15 := by rw [← hW0]; exact (Blk.new w _ _).up (Up.alloc' _ _)
  have hg0 : Rdr W0 (w.heap.size + 1) A c l (0, 0) := by rw [← hW0]; exact (show Blk _ (w.heap.size + 1) _ _ by have := Blk.new (w.alloc (.cells zero15 30)) 60 #[.slice A l.length c, .int .i64 0, .int .i64 0]; rw [World.size_alloc] at this; exact this)
  have HW0 := Lib.hid hW0
  clear hW0
  go_enter Tryd.func18, Tryd.ntmps18
  go_wp2_with fail
  have HW0' := HW0.out
  simp only [zero15, opC, OP.zero] at HW0'
  simp only [List.length_nil] at HW0'
  simp only [HW0']
  clear HW0 HW0'
  refine (kS _ hg0 hb0).mono ?_
  rintro e w3 ⟨rfl, hg3, gr3⟩
  have hz3 := hz0.kept gr3 (by simp)
  have hb3 := hb0.grown gr3 hb0.size (fun k e => by cases e; omega)
  have hlt : w.heap.size + 1 < w3.heap.size := Blk.lt hg3
  clear kS hg0 hz0 hb0 gr3
  have e2 : nR l 2 = ([rN l (0, 0), rN l (rQ l (0, 0))], rQ l (rQ l (0, 0))) := rfl
  obtain ⟨W4, hW4⟩ : ∃ x, (w3.alloc (.cells (opC (opOf (nR l 2).1) none 0).toArray 30)).alloc (.cells (ptrs w3.heap.size).toArray 62) = x := ⟨_, rfl⟩
  have hu4 : Up w3 W4 := by rw [← hW4]; exact (Up.alloc' _ _).trans (Up.alloc' _ _)
  have hP4 : Blk W4 (w3.heap.size + 1) 62 (ptrs w3.heap.size).toArray := by
    rw [← hW4]
    have := Blk.new (w3.alloc (.cells (opC (opOf (nR l 2).1) none 0).toArray 30)) 62 (ptrs w3.heap.size).toArray
    rw [World.size_alloc] at this; exact this
  have hO4 : Blk W4 w3.heap.size 30 (opC (opOf (nR l 2).1) none 0).toArray := by rw [← hW4]; exact (Blk.new w3 _ _).up (Up.alloc' _ _)
  have F0 : FS w w3.heap.size A c l (opOf (nR l 2).1) none 0 (nR l 2).2 W4 := ⟨hz3.up hu4, by rw [e2]; exact Blk.up hg3 hu4, hO4, stepB hb3 hu4.b, hlt⟩
  rw [e2] at hW4
  have HW4 := Lib.hid hW4
  clear hW4 hu4 hO4 hz3 hb3 hg3 e2
  generalize rN l (rQ l (0, 0)) = V2 at *
  generalize rN l (0, 0) = V1 at *
  go_wp2_with fail
  have HW4' := HW4.out
  simp only [ptrs, List.range, List.range.loop, List.map_cons, List.map_nil, opC, opOf, List.getD, List.getElem?_cons_zero, List.getElem?_cons_succ, List.getElem?_nil, Option.getD_some, Option.getD_none, List.length_nil, Nat.reduceAdd] at HW4'
  simp only [HW4']
  clear HW4 HW4'
  generalize w3.heap.size = B at *
  go_loopw [35] (FromRel1 w B A c l) (fun i _ => 8 - (intOf i).toNat)
  case atStart => exact ⟨0, by omega, rfl, F0, hP4⟩
  case round =>
    clear F0 hP4
    obtain ⟨k, hk, rfl, F, hP⟩ := hrel
    by_cases hlt8 : k < 8
    · have t1 : decide ((k : Int) < 8) = true := decide_eq_true (by omega)
      have hp : wr.cell? ⟨B + 1, k, none⟩ = some (.pointer (some ⟨B, 2 + k, none⟩)) := by rw [hP.cell]; simpa using ptrs_at B k hlt8
      have kN := numRead_any wr (w.heap.size + 1) A c l (nR l (2 + k)).2 F.rd (h.below F.be) hl ((nR_ok l (2 + k)).bd hl)
      have en : nR l (2 + (k + 1)) = ((nR l (2 + k)).1 ++ [rN l (nR l (2 + k)).2], rQ l (nR l (2 + k)).2) := rfl
      have hs := opOf_set (nR l (2 + k)).1 (rN l (nR l (2 + k)).2) (by rw [nR_len]; omega)
      rw [nR_len] at hs
      obtain ⟨x0, hx0⟩ := opOf_cell (nR l (2 + k)).1 (2 + k) (by omega)
      have Hs := Lib.hid hs
      have En := Lib.hid en
      clear hs en
      generalize rN l (nR l (2 + k)).2 = V at *
      generalize rQ l (nR l (2 + k)).2 = Q at *
      go_wp2_with fail
      refine kN.mono ?_
      rintro e w5 ⟨rfl, hg5, gr5⟩
      have F5 := F.read hg5 gr5
      have hP5 := hP.kept gr5 (by have := F.lt; simp; omega)
      have c5 : w5.cell? ⟨B, 2 + k, none⟩ = some (.int .i64 x0) := by rw [F5.ob.cell, hx0]
      have f5 := F5.ob.free (2 + k)
      clear kN
      go_wp2_with fail
      go_roundw
      case rel =>
        refine ⟨k + 1, hlt8, by go_num, ?_, hP5.kept (grown_set _ B (2 + k) (.int .i64 V)) (by simp)⟩
        rw [En.out]
        exact F5.put (2 + k) (.int .i64 V) Hs.out
      case measure => simp [intOf]; omega
    · obtain rfl : k = 8 := by omega
      have t1 : decide (((8 : Nat) : Int) < 8) = false := by decide
      have F0 : FS w B A c l (opOf (nR l 10).1) none 0 (fQ0 l) wr := F
      have z0 : B + 2 ≤ wr.heap.size := Blk.lt hP
      clear F hP
      have kT0 : Calls Tryd.prog 45 #[.pointer (some ⟨w.heap.size + 1, 0, none⟩)] wr fun e w'' => e = .returned (.string ⟨(tN l (fQ0 l)).toArray⟩) ∧ Rdr w'' (w.heap.size + 1) A c l (fQ1 l) ∧ wr.grownBy w'' (some (w.heap.size + 1)) := text_read wr (w.heap.size + 1) A c l (fQ0 l) F0.rd (h.below F0.be) hl hlc ((nR_ok l 10).bd hl)
      have q0 := nR_ok l 10
      have q1 : Qok l (fQ1 l) := Qok.tQ q0
      have q2 : Qok l (fQ2 l) := Qok.rQ q1
      have q3 : Qok l (fQ3 l) := Qok.rQ q2
      have q4 : Qok l (fQ4 l) := Qok.tQ q3
      have q5 : Qok l (fQ5 l) := Qok.rQ q4
      have kN1 : ∀ w', Rdr w' (w.heap.size + 1) A c l (fQ1 l) → Below w.heap.size w w' → Calls Tryd.prog 44 #[.pointer (some ⟨w.heap.size + 1, 0, none⟩)] w' fun e w'' => e = .returned (.int .i64 (rN l (fQ1 l))) ∧ Rdr w'' (w.heap.size + 1) A c l (fQ2 l) ∧ w'.grownBy w'' (some (w.heap.size + 1)) := fun w' a b => numRead_any w' (w.heap.size + 1) A c l (fQ1 l) a (h.below b) hl (q1.bd hl)
      have kN2 : ∀ w', Rdr w' (w.heap.size + 1) A c l (fQ2 l) → Below w.heap.size w w' → Calls Tryd.prog 44 #[.pointer (some ⟨w.heap.size + 1, 0, none⟩)] w' fun e w'' => e = .returned (.int .i64 (rN l (fQ2 l))) ∧ Rdr w'' (w.heap.size + 1) A c l (fQ3 l) ∧ w'.grownBy w'' (some (w.heap.size + 1)) := fun w' a b => numRead_any w' (w.heap.size + 1) A c l (fQ2 l) a (h.below b) hl (q2.bd hl)
      have kT3 : ∀ w', Rdr w' (w.heap.size + 1) A c l (fQ3 l) → Below w.heap.size w w' → Calls Tryd.prog 45 #[.pointer (some ⟨w.heap.size + 1, 0, none⟩)] w' fun e w'' => e = .returned (.string ⟨(tN l (fQ3 l)).toArray⟩) ∧ Rdr w'' (w.heap.size + 1) A c l (fQ4 l) ∧ w'.grownBy w'' (some (w.heap.size + 1)) := fun w' a b => text_read w' (w.heap.size + 1) A c l (fQ3 l) a (h.below b) hl hlc (q3.bd hl)
      have kN4 : ∀ w', Rdr w' (w.heap.size + 1) A c l (fQ4 l) → Below w.heap.size w w' → Calls Tryd.prog 44 #[.pointer (some ⟨w.heap.size + 1, 0, none⟩)] w' fun e w'' => e = .returned (.int .i64 (fN l)) ∧ Rdr w'' (w.heap.size + 1) A c l (fQ5 l) ∧ w'.grownBy w'' (some (w.heap.size + 1)) := fun w' a b => numRead_any w' (w.heap.size + 1) A c l (fQ4 l) a (h.below b) hl (q4.bd hl)
      have eO : Hid (fO l = { opOf (nR l 10).1 with nt := tN l (fQ0 l), se := rN l (fQ1 l), nn := rN l (fQ2 l), tx := tN l (fQ3 l), ov := (fS l).1 }) := rfl
      have hBD : Hid (fO l).Bd := fO_bd l hl
      have bd : (opOf (nR l 10).1).ov = [] := rfl
      generalize opOf (nR l 10).1 = o0 at *
      obtain ⟨a0, a1, a2, a3, a4, a5, a6, a7, a8, a9, y0, y1, y2, y3, y4⟩ := o0
      obtain rfl : y4 = [] := bd
      generalize tN l (fQ0 l) = NT at *
      generalize rN l (fQ1 l) = SE at *
      generalize rN l (fQ2 l) = NN at *
      generalize tN l (fQ3 l) = TX at *
      go_wp2_with fail
      refine kT0.mono ?_
      rintro e w5 ⟨rfl, hg5, gr5⟩
      have F5 := F0.read hg5 gr5
      have z5 := Nat.le_trans z0 gr5.size
      have c5 : w5.cell? ⟨B, 10, none⟩ = some (.string ⟨y0.toArray⟩) := by rw [F5.ob.cell]; rfl
      have f5 := F5.ob.free 10
      have F6 := F5.put (o' := ⟨a0, a1, a2, a3, a4, a5, a6, a7, a8, a9, NT, y1, y2, y3, []⟩) 10 (.string ⟨NT.toArray⟩) rfl
      clear kT0
      go_wp2_with fail
      refine (kN1 _ F6.rd F6.be).mono ?_
      rintro e w7 ⟨rfl, hg7, gr7⟩
      have F7 := F6.read hg7 gr7
      have z7 := Nat.le_trans (sz_set z5) gr7.size
      clear kN1 F5 F6 c5 f5 hg5 gr5 z5
      go_wp2_with fail
      refine (kN2 _ F7.rd F7.be).mono ?_
      rintro e w8 ⟨rfl, hg8, gr8⟩
      have F8 := F7.read hg8 gr8
      have z8 := Nat.le_trans z7 gr8.size
      have c8 : w8.cell? ⟨B, 11, none⟩ = some (.int .i64 y1) := by rw [F8.ob.cell]; rfl
      have f8 := F8.ob.free 11
      have c8' : w8.cell? ⟨B, 12, none⟩ = some (.int .i64 y2) := by rw [F8.ob.cell]; rfl
      have f8' := F8.ob.free 12
      have F9 := (F8.put (o' := ⟨a0, a1, a2, a3, a4, a5, a6, a7, a8, a9, NT, SE, y2, y3, []⟩) 11 (.int .i64 SE) rfl).put (o' := ⟨a0, a1, a2, a3, a4, a5, a6, a7, a8, a9, NT, SE, NN, y3, []⟩) 12 (.int .i64 NN) rfl
      clear kN2 F7 hg7 gr7
      go_wp2_with fail
      refine (kT3 _ F9.rd F9.be).mono ?_
      rintro e w10 ⟨rfl, hg10, gr10⟩
      have F10 := F9.read hg10 gr10
      have z10 := Nat.le_trans (sz_set (sz_set z8)) gr10.size
      have c10 : w10.cell? ⟨B, 13, none⟩ = some (.string ⟨y3.toArray⟩) := by rw [F10.ob.cell]; rfl
      have f10 := F10.ob.free 13
      have F11 := F10.put (o' := ⟨a0, a1, a2, a3, a4, a5, a6, a7, a8, a9, NT, SE, NN, TX, []⟩) 13 (.string ⟨TX.toArray⟩) rfl
      clear kT3 F8 F9 c8 f8 c8' f8' hg8 gr8
      go_wp2_with fail
      refine (kN4 _ F11.rd F11.be).mono ?_
      rintro e w12 ⟨rfl, hg12, gr12⟩
      have F12 := F11.read hg12 gr12
      have z12 := Nat.le_trans (sz_set z10) gr12.size
      clear kN4 F10 F11 c10 f10 hg10 gr10 hg12 gr12 z7 z8 z10 z0
      have c12 : w12.cell? ⟨w.heap.size + 1, 2, none⟩ = some (.int .i64 (fQ5 l).2) := by rw [F12.rd.cell]; rfl
      have f12 := F12.rd.free 2
      have e6 : Hid (fQ6 l = if ((fQ5 l).2 == 0 && (decide (fN l < 0) || decide (16 < fN l))) = true then ((fQ5 l).1, 3) else fQ5 l) := by
        rw [Hid, fQ6]; simp only [Bool.and_eq_true, Bool.or_eq_true, beq_iff_eq, decide_eq_true_eq]
      have eS : Hid (fS l = sGo l (fN l).toNat (fQ6 l)) := rfl
      have qok6 : Qok l (fQ6 l) := by unfold fQ6; split <;> exact q5
      have bN : I64b (fN l) := rN_bd _ _
      generalize fQ5 l = Q5 at *
      generalize fQ6 l = Q6 at *
      generalize fN l = N at *
      obtain ⟨qa, qe⟩ := Q5
      dsimp only at c12 e6
      obtain ⟨TB, hTB⟩ : ∃ b, (qe == 0 && (decide (N < 0) || decide (16 < N))) = b := ⟨_, rfl⟩
      rw [hTB] at e6
      have HTB := Lib.hid hTB
      clear hTB q0 q1 q2 q3 q4 q5
      go_upto_region 12 with fail
      go_cut [71] (fun s wx => s = .bool TB ∧ w12 = wx)
      case first =>
        rcases t1 : qe == 0 with _ | _
        · have e := Lib.hid (show TB = false by rw [← HTB.out, t1]; rfl)
          go_wp2_with fail
          go_meet
          exact ⟨by rw [e.out], rfl⟩
        · rcases t2 : decide (N < 0) with _ | _
          · rcases t3 : decide (16 < N) with _ | _
            all_goals
              have e := Lib.hid HTB.out.symm
              rw [t1, t2, t3] at e
              go_wp2_with fail
              go_meet
              exact ⟨by rw [e.out]; rfl, rfl⟩
          · have e := Lib.hid (show TB = true by rw [← HTB.out, t1, t2]; rfl)
            go_wp2_with fail
            go_meet
            exact ⟨by rw [e.out], rfl⟩
      case rest =>
        obtain ⟨rfl, rfl⟩ := hcut
        go_upto_if 71 with fail
        go_cut [] (fun wx => FS w B A c l ⟨a0, a1, a2, a3, a4, a5, a6, a7, a8, a9, NT, SE, NN, TX, []⟩ none 0 Q6 wx ∧ B + 2 ≤ wx.heap.size)
        case first =>
          rcases TB with _ | _
          · have e6' : Q6 = (qa, qe) := e6.out
            subst e6'
            go_wp2_with fail
            go_meet
            exact ⟨F12, z12⟩
          · have e6' : Q6 = (qa, 3) := e6.out
            subst e6'
            go_wp2_with fail
            go_meet
            exact ⟨F12.err 3, sz_set z12⟩
        case rest =>
          clear F12 c12 f12
          have HG : Hid (Q6.2 = 0 → N ≤ 16) := by
            intro hz
            rw [e6.out] at hz
            rcases TB with _ | _
            · have h1 := HTB.out
              rw [if_neg (by simp)] at hz
              dsimp only at hz
              rw [hz] at h1
              simp only [beq_self_eq_true, Bool.true_and, Bool.or_eq_false_iff, decide_eq_false_iff_not] at h1
              omega
            · rw [if_pos rfl] at hz; exact absurd (show (3 : Int) = 0 from hz) (by decide)
          clear e6 HTB
          obtain ⟨st0, hst, hy0, hy1, hy2⟩ := info_parts info_st
          obtain ⟨hcut, hzc⟩ := hcut
          clear z12
          go_wp2_with fail
          go_loopw [9] (FromRel2 w B A c l ⟨a0, a1, a2, a3, a4, a5, a6, a7, a8, a9, NT, SE, NN, TX, []⟩ N (fS l)) (fun i _ => N.toNat + 1 - (intOf i).toNat)
          case atStart => exact ⟨0, [], none, 0, Q6, rfl, by omega, rfl, hcut, Own.nil _ _ _ _, by rw [Hid, eS.out]; simp, qok6, HG, hzc⟩
          case round =>
            clear hcut hzc
            obtain ⟨i, acc, Ao, co, q, rfl, hi, ha, F, hown, hS, hq, hG, hzr⟩ := hrel
            have c2 : wr.cell? ⟨w.heap.size + 1, 2, none⟩ = some (.int .i64 q.2) := by rw [F.rd.cell]; rfl
            by_cases hlt : (i : Int) < N ∧ q.2 = 0
            · obtain ⟨hlt, hq0⟩ := hlt
              have t1 : decide ((i : Int) < N) = true := decide_eq_true hlt
              have t2 : (q.2 == 0) = true := by simpa using hq0
              have hN16 := hG.out hq0
              have hi1 : i + 1 ≤ 16 := by omega
              have hiN : i < N.toNat := by omega
              have hS2 : Hid (fS l = ((acc ++ [(rN l q, rN l (rQ l q))]) ++ (sGo l (N.toNat - (i + 1)) (rQ l (rQ l q))).1, (sGo l (N.toNat - (i + 1)) (rQ l (rQ l q))).2)) := by
                rw [Hid, hS.out, show N.toNat - i = (N.toNat - (i + 1)) + 1 by omega, sGo, if_pos hq0, List.append_assoc]; rfl
              have kS := stampRead_any wr.drew (w.heap.size + 1) A c l q F.rd (h.below F.be.drew) hf hl hq
              have hqq := hq.rQ.rQ
              have c14 : wr.cell? ⟨B, 14, none⟩ = some (.slice Ao acc.length co) := F.opAt.2.2.2.2.2
              clear hS hlt hq0
              generalize rN l (rQ l q) = V2 at *
              generalize rQ l (rQ l q) = Q2 at *
              generalize rN l q = V1 at *
              have hG2 : Hid (Q2.2 = 0 → N ≤ 16) := fun _ => hN16
              go_wp2_with fail
              refine wp_region_noPanic ?_
              refine wp_region_held_drew (S := fun _ => True) (by kernel_rfl) trivial (fun hHeld => ?_)
              refine wpAnyH_take (i := 0) (v := ?_) rfl (by kernel_rfl) (by kernel_rfl) (by kernel_rfl) (fun _ _ _ h => h) (Or.inl ⟨by rfl, ?_⟩) trivial ?_
              rotate_left
              · intro w' hSw; clear hSw; go_simp; try (with_reducible rfl)
              change wpAnyH _ _ _ _ _ _ _ (Act.put _ (some 87) _) _
              try (simp only [Act.put, List.setIfInBounds_toArray, List.set_cons_zero, List.set_cons_succ])
              refine wpAnyH_take (i := 2) (v := ?_) rfl (by kernel_rfl) (by kernel_rfl) (by kernel_rfl) (fun _ _ _ h => h) (Or.inl ⟨by rfl, ?_⟩) trivial ?_
              rotate_left
              · intro w' hSw; clear hSw; go_simp; try (with_reducible rfl)
              change wpAnyH _ _ _ _ _ _ _ (Act.put _ (some 89) _) _
              try (simp only [Act.put, List.setIfInBounds_toArray, List.set_cons_zero, List.set_cons_succ])
              refine wpAnyH_ready (rs := [1, 3]) (by kernel_rfl) (by simp) ?_
              refine AllReadyH.cons rfl (fun K hK => ?_) (AllReadyH.cons rfl (fun K hK => ?_) AllReadyH.nil)
              · go_simp
                refine hK.out _ _ trivial (fun hHeld => ?_)
                clear hK K
                refine wpAnyH_ready (rs := [3]) (by kernel_rfl) (by simp) ?_
                refine AllReadyH.cons rfl (fun K hK => ?_) AllReadyH.nil
                go_simp
                refine kS.mono ?_
                rintro e w6 ⟨rfl, hg6, gr6⟩
                have F6 := (F.up (Up.drew wr)).read hg6 gr6
                have o6 := Own.kept (hown.drew) gr6 (Own.farRow hown (by have := F.lt; omega))
                have z6 : B + 2 ≤ w6.heap.size := Nat.le_trans hzr gr6.size
                have d14 : w6.cell? ⟨B, 14, none⟩ = some (.slice Ao acc.length co) := F6.opAt.2.2.2.2.2
                have d14a : (w6.alloc (.cells #[.int .i64 V1, .int .i64 V2] 23)).cell? ⟨B, 14, none⟩ = some (.slice Ao acc.length co) := (F6.up (Up.alloc' w6 (.cells #[.int .i64 V1, .int .i64 V2] 23))).opAt.2.2.2.2.2
                refine hK.out _ _ trivial (fun hHeld => ?_)
                clear hK K
                refine wpAnyH_ready (rs := [4]) (by kernel_rfl) (by simp) ?_
                refine AllReadyH.cons rfl (fun K hK => ?_) AllReadyH.nil
                go_simp
                refine hK.out _ _ trivial (fun hHeld => ?_)
                clear hK K
                refine wpAnyH_ready (rs := [5]) (by kernel_rfl) (by simp) ?_
                refine AllReadyH.cons rfl (fun K hK => ?_) AllReadyH.nil
                rw [if_pos (by rfl)]
                refine wp_append_Own _ (.tmp 88) (.tmp 91) 28 rfl (B + 2) 23 st0 _ 2 16 Tryd.underlying28 hst hy0 hy1 hy2 rfl (by omega) (.slice Ao acc.length co) acc.length (ovL acc) (by go_simp) (o6.alloc _) (some ⟨w6.heap.size, 0, none⟩) 1 1 [.int .i64 V1, .int .i64 V2] rfl rfl (Rd.new _ _ _ _) (by intro u hu; simp at hu; rcases hu with rfl | rfl <;> rfl) (by simp only [maxLen]; omega) (by omega) (by simp; omega) ?_
                intro v9 W9 hown9 gr9 hb9 hat9
                have F9 := (F6.up (Up.alloc' w6 (.cells #[.int .i64 V1, .int .i64 V2] 23))).grown gr9 (fun k hk => by have := (o6.lt k hk).1; omega)
                obtain ⟨A9, c9, hv9, hc9, hr9⟩ := hown9.rd
                subst hv9
                have e14 : W9.cell? ⟨B, 14, none⟩ = some (.slice Ao acc.length co) := F9.opAt.2.2.2.2.2
                have g14 := F9.ob.free 14
                have F10 := F9.putOv (acc' := acc ++ [(V1, V2)]) A9 c9
                refine hK.out _ _ trivial (fun hHeld => ?_)
                clear hK K
                refine wpAnyH_take (i := 6) (v := ?_) rfl (by kernel_rfl) (by kernel_rfl) (by kernel_rfl) (fun _ _ _ h => h) (Or.inl ⟨by rfl, ?_⟩) trivial ?_
                rotate_left
                · intro w' hSw; clear hSw; go_simp; try (with_reducible rfl)
                change wpAnyH _ _ _ _ _ _ _ (Act.put _ (some 93) _) _
                try (simp only [Act.put, List.setIfInBounds_toArray, List.set_cons_zero, List.set_cons_succ])
                refine wpAnyH_ready (rs := [7]) (by kernel_rfl) (by simp) ?_
                refine AllReadyH.cons rfl (fun K hK => ?_) AllReadyH.nil
                go_simp
                refine hK.out _ _ trivial (fun hHeld => ?_)
                clear hK K
                refine wpAnyH_done (by kernel_rfl) ?_ _
                refine NoPanic.normal ?_
                clear hHeld
                go_wp2_with fail
                have eL : (acc ++ [(V1, V2)]).length = i + 1 := by rw [List.length_append, ha]; rfl
                rw [eL] at F10
                refine ⟨⟨i + 1, acc ++ [(V1, V2)], A9, c9, Q2, by go_num, hi1, eL, F10, ?_, hS2, hqq, hG2, sz_set (Nat.le_trans z6 (Nat.le_trans (by simp) gr9.size))⟩, by simp [intOf]; omega⟩
                rw [eL, ovL_append]
                have o9 := Own.kept hown9 (grown_set W9 B 14 (.slice A9 (i + 1) c9)) (Own.farRow hown9 (by omega))
                rw [ha] at o9
                exact o9
              · go_simp
                refine kS.mono ?_
                rintro e w6 ⟨rfl, hg6, gr6⟩
                have F6 := (F.up (Up.drew wr)).read hg6 gr6
                have o6 := Own.kept (hown.drew) gr6 (Own.farRow hown (by have := F.lt; omega))
                have z6 : B + 2 ≤ w6.heap.size := Nat.le_trans hzr gr6.size
                have d14 : w6.cell? ⟨B, 14, none⟩ = some (.slice Ao acc.length co) := F6.opAt.2.2.2.2.2
                have d14a : (w6.alloc (.cells #[.int .i64 V1, .int .i64 V2] 23)).cell? ⟨B, 14, none⟩ = some (.slice Ao acc.length co) := (F6.up (Up.alloc' w6 (.cells #[.int .i64 V1, .int .i64 V2] 23))).opAt.2.2.2.2.2
                refine hK.out _ _ trivial (fun hHeld => ?_)
                clear hK K
                refine wpAnyH_ready (rs := [1, 4]) (by kernel_rfl) (by simp) ?_
                refine AllReadyH.cons rfl (fun K hK => ?_) (AllReadyH.cons rfl (fun K hK => ?_) AllReadyH.nil)
                · go_simp
                  refine hK.out _ _ trivial (fun hHeld => ?_)
                  clear hK K
                  refine wpAnyH_ready (rs := [4]) (by kernel_rfl) (by simp) ?_
                  refine AllReadyH.cons rfl (fun K hK => ?_) AllReadyH.nil
                  go_simp
                  refine hK.out _ _ trivial (fun hHeld => ?_)
                  clear hK K
                  refine wpAnyH_ready (rs := [5]) (by kernel_rfl) (by simp) ?_
                  refine AllReadyH.cons rfl (fun K hK => ?_) AllReadyH.nil
                  rw [if_pos (by rfl)]
                  refine wp_append_Own _ (.tmp 88) (.tmp 91) 28 rfl (B + 2) 23 st0 _ 2 16 Tryd.underlying28 hst hy0 hy1 hy2 rfl (by omega) (.slice Ao acc.length co) acc.length (ovL acc) (by go_simp) (o6.alloc _) (some ⟨w6.heap.size, 0, none⟩) 1 1 [.int .i64 V1, .int .i64 V2] rfl rfl (Rd.new _ _ _ _) (by intro u hu; simp at hu; rcases hu with rfl | rfl <;> rfl) (by simp only [maxLen]; omega) (by omega) (by simp; omega) ?_
                  intro v9 W9 hown9 gr9 hb9 hat9
                  have F9 := (F6.up (Up.alloc' w6 (.cells #[.int .i64 V1, .int .i64 V2] 23))).grown gr9 (fun k hk => by have := (o6.lt k hk).1; omega)
                  obtain ⟨A9, c9, hv9, hc9, hr9⟩ := hown9.rd
                  subst hv9
                  have e14 : W9.cell? ⟨B, 14, none⟩ = some (.slice Ao acc.length co) := F9.opAt.2.2.2.2.2
                  have g14 := F9.ob.free 14
                  have F10 := F9.putOv (acc' := acc ++ [(V1, V2)]) A9 c9
                  refine hK.out _ _ trivial (fun hHeld => ?_)
                  clear hK K
                  refine wpAnyH_take (i := 6) (v := ?_) rfl (by kernel_rfl) (by kernel_rfl) (by kernel_rfl) (fun _ _ _ h => h) (Or.inl ⟨by rfl, ?_⟩) trivial ?_
                  rotate_left
                  · intro w' hSw; clear hSw; go_simp; try (with_reducible rfl)
                  change wpAnyH _ _ _ _ _ _ _ (Act.put _ (some 93) _) _
                  try (simp only [Act.put, List.setIfInBounds_toArray, List.set_cons_zero, List.set_cons_succ])
                  refine wpAnyH_ready (rs := [7]) (by kernel_rfl) (by simp) ?_
                  refine AllReadyH.cons rfl (fun K hK => ?_) AllReadyH.nil
                  go_simp
                  refine hK.out _ _ trivial (fun hHeld => ?_)
                  clear hK K
                  refine wpAnyH_done (by kernel_rfl) ?_ _
                  refine NoPanic.normal ?_
                  clear hHeld
                  go_wp2_with fail
                  have eL : (acc ++ [(V1, V2)]).length = i + 1 := by rw [List.length_append, ha]; rfl
                  rw [eL] at F10
                  refine ⟨⟨i + 1, acc ++ [(V1, V2)], A9, c9, Q2, by go_num, hi1, eL, F10, ?_, hS2, hqq, hG2, sz_set (Nat.le_trans z6 (Nat.le_trans (by simp) gr9.size))⟩, by simp [intOf]; omega⟩
                  rw [eL, ovL_append]
                  have o9 := Own.kept hown9 (grown_set W9 B 14 (.slice A9 (i + 1) c9)) (Own.farRow hown9 (by omega))
                  rw [ha] at o9
                  exact o9
                · go_simp
                  refine hK.out _ _ trivial (fun hHeld => ?_)
                  clear hK K
                  refine wpAnyH_ready (rs := [1]) (by kernel_rfl) (by simp) ?_
                  refine AllReadyH.cons rfl (fun K hK => ?_) AllReadyH.nil
                  go_simp
                  refine hK.out _ _ trivial (fun hHeld => ?_)
                  clear hK K
                  refine wpAnyH_ready (rs := [5]) (by kernel_rfl) (by simp) ?_
                  refine AllReadyH.cons rfl (fun K hK => ?_) AllReadyH.nil
                  rw [if_pos (by rfl)]
                  refine wp_append_Own _ (.tmp 88) (.tmp 91) 28 rfl (B + 2) 23 st0 _ 2 16 Tryd.underlying28 hst hy0 hy1 hy2 rfl (by omega) (.slice Ao acc.length co) acc.length (ovL acc) (by go_simp) (o6.alloc _) (some ⟨w6.heap.size, 0, none⟩) 1 1 [.int .i64 V1, .int .i64 V2] rfl rfl (Rd.new _ _ _ _) (by intro u hu; simp at hu; rcases hu with rfl | rfl <;> rfl) (by simp only [maxLen]; omega) (by omega) (by simp; omega) ?_
                  intro v9 W9 hown9 gr9 hb9 hat9
                  have F9 := (F6.up (Up.alloc' w6 (.cells #[.int .i64 V1, .int .i64 V2] 23))).grown gr9 (fun k hk => by have := (o6.lt k hk).1; omega)
                  obtain ⟨A9, c9, hv9, hc9, hr9⟩ := hown9.rd
                  subst hv9
                  have e14 : W9.cell? ⟨B, 14, none⟩ = some (.slice Ao acc.length co) := F9.opAt.2.2.2.2.2
                  have g14 := F9.ob.free 14
                  have F10 := F9.putOv (acc' := acc ++ [(V1, V2)]) A9 c9
                  refine hK.out _ _ trivial (fun hHeld => ?_)
                  clear hK K
                  refine wpAnyH_take (i := 6) (v := ?_) rfl (by kernel_rfl) (by kernel_rfl) (by kernel_rfl) (fun _ _ _ h => h) (Or.inl ⟨by rfl, ?_⟩) trivial ?_
                  rotate_left
                  · intro w' hSw; clear hSw; go_simp; try (with_reducible rfl)
                  change wpAnyH _ _ _ _ _ _ _ (Act.put _ (some 93) _) _
                  try (simp only [Act.put, List.setIfInBounds_toArray, List.set_cons_zero, List.set_cons_succ])
                  refine wpAnyH_ready (rs := [7]) (by kernel_rfl) (by simp) ?_
                  refine AllReadyH.cons rfl (fun K hK => ?_) AllReadyH.nil
                  go_simp
                  refine hK.out _ _ trivial (fun hHeld => ?_)
                  clear hK K
                  refine wpAnyH_done (by kernel_rfl) ?_ _
                  refine NoPanic.normal ?_
                  clear hHeld
                  go_wp2_with fail
                  have eL : (acc ++ [(V1, V2)]).length = i + 1 := by rw [List.length_append, ha]; rfl
                  rw [eL] at F10
                  refine ⟨⟨i + 1, acc ++ [(V1, V2)], A9, c9, Q2, by go_num, hi1, eL, F10, ?_, hS2, hqq, hG2, sz_set (Nat.le_trans z6 (Nat.le_trans (by simp) gr9.size))⟩, by simp [intOf]; omega⟩
                  rw [eL, ovL_append]
                  have o9 := Own.kept hown9 (grown_set W9 B 14 (.slice A9 (i + 1) c9)) (Own.farRow hown9 (by omega))
                  rw [ha] at o9
                  exact o9
            · subst ha
              have hF : fS l = (acc, q) := by
                rw [hS.out]
                by_cases hq0 : q.2 = 0
                · have : N.toNat - acc.length = 0 := by omega
                  rw [this]; simp [sGo]
                · rw [sGo_stop hq0]; simp
              have tt : decide ((acc.length : Int) < N) = false ∨ (decide ((acc.length : Int) < N) = true ∧ (q.2 == 0) = false) := by
                by_cases hi' : (acc.length : Int) < N
                · exact .inr ⟨decide_eq_true hi', beq_eq_false_iff_ne.2 (fun e => hlt ⟨hi', e⟩)⟩
                · exact .inl (decide_eq_false hi')
              have hE8 : Hid (fQ8 l = if (q.2 == 0 && decide (q.1 < (l.length : Int))) = true then (q.1, 3) else q) := by
                rw [Hid, fQ8, hF]; simp only [Bool.and_eq_true, beq_iff_eq, decide_eq_true_eq]
              have hO : fO l = ⟨a0, a1, a2, a3, a4, a5, a6, a7, a8, a9, NT, SE, NN, TX, acc⟩ := by rw [eO.out, hF]
              have bdO := hBD.out
              rw [hO] at bdO
              have hfE : (fE l = orE (fQ8 l).2 (checkE ⟨a0, a1, a2, a3, a4, a5, a6, a7, a8, a9, NT, SE, NN, TX, acc⟩)) := by rw [fE, hO]
              have hfR : (fR l = if fE l = 0 then ⟨a0, a1, a2, a3, a4, a5, a6, a7, a8, a9, NT, SE, NN, TX, acc⟩ else OP.zero) := by rw [fR, hO]
              clear hF hS hG hlt hO eO eS hBD
              generalize fQ8 l = Q8 at *
              obtain ⟨FE, hFE⟩ : ∃ x, fE l = x := ⟨_, rfl⟩
              rw [hFE] at hfE hfR
              replace hfE := Lib.hid hfE
              replace hfR := Lib.hid hfR
              have HFE := Lib.hid hFE
              clear hFE
              have F : FS w B A c l ⟨a0, a1, a2, a3, a4, a5, a6, a7, a8, a9, NT, SE, NN, TX, acc⟩ Ao co q wr := F
              obtain ⟨qa2, qe2⟩ := q
              dsimp only at c2 tt hE8
              obtain ⟨TB, hTB⟩ : ∃ b, (qe2 == 0 && decide (qa2 < (l.length : Int))) = b := ⟨_, rfl⟩
              rw [hTB] at hE8
              have HTB := Lib.hid hTB
              clear hTB
              have c1 : wr.cell? ⟨w.heap.size + 1, 1, none⟩ = some (.int .i64 qa2) := by rw [F.rd.cell]; rfl
              have f2 := F.rd.free 2
              go_upto_region 15 with fail
              go_cut [84] (fun s wx => s = .bool false ∧ wr = wx)
              case first =>
                rcases tt with t1 | ⟨t1, t2⟩
                all_goals
                  go_wp2_with fail
                  go_meet
                  exact ⟨rfl, rfl⟩
              case rest =>
                obtain ⟨rfl, rfl⟩ := hcut
                clear tt
                go_upto_region 18 with fail
                go_cut [107] (fun s wx => s = .bool TB ∧ wr = wx)
                case first =>
                  rcases t1 : qe2 == 0 with _ | _
                  · have e := Lib.hid (show TB = false by rw [← HTB.out, t1]; rfl)
                    go_wp2_with fail
                    go_meet
                    exact ⟨by rw [e.out], rfl⟩
                  · have e := Lib.hid (show TB = decide (qa2 < (l.length : Int)) by rw [← HTB.out, t1]; rfl)
                    go_wp2_with fail
                    go_meet
                    exact ⟨by rw [e.out], rfl⟩
                case rest =>
                  obtain ⟨rfl, rfl⟩ := hcut
                  clear HTB
                  go_upto_if 107 with fail
                  go_cut [] (fun wx => FS w B A c l ⟨a0, a1, a2, a3, a4, a5, a6, a7, a8, a9, NT, SE, NN, TX, acc⟩ Ao co Q8 wx ∧ Own wx (B + 2) 23 2 (.slice Ao acc.length co) acc.length (ovL acc))
                  case first =>
                    rcases TB with _ | _
                    · have e6' : Q8 = (qa2, qe2) := hE8.out
                      subst e6'
                      go_wp2_with fail
                      go_meet
                      exact ⟨F, hown⟩
                    · have e6' : Q8 = (qa2, 3) := hE8.out
                      subst e6'
                      go_wp2_with fail
                      go_meet
                      exact ⟨F.err 3, Own.kept hown (grown_set wr (w.heap.size + 1) 2 (.int .i64 3)) (Own.farRow hown (by have := F.lt; omega))⟩
                  case rest =>
                    clear F hown c1 c2 f2 hE8
                    obtain ⟨F, hown⟩ := hcut
                    obtain ⟨A', c', hv', hcO, hrO⟩ := hown.rd
                    injection hv' with e1' _ e3'
                    subst e1' e3'
                    go_upto_region 20 with fail
                    have kC := fun w' (u : Up wc w') => check_any w' ⟨a0, a1, a2, a3, a4, a5, a6, a7, a8, a9, NT, SE, NN, TX, acc⟩ Ao co bdO (u.rd hrO) hcO (hT.below (F.up u).be)
                    unfold opV opC at kC
                    dsimp only at kC
                    have R := fun w' (u : Up wc w') => (F.up u).opAt
                    dsimp only [OpAt] at R
                    have rE := fun w' (u : Up wc w') => (F.up u).rd.cell 2
                    have rE : ∀ w', Up wc w' → w'.cell? ⟨w.heap.size + 1, 2, none⟩ = some (.int .i64 Q8.2) := fun w' u => (rE w' u).trans rfl
                    have r0 := fun w' (u : Up wc w') => (R w' u).1.1
                    have r1 := fun w' (u : Up wc w') => (R w' u).1.2.1
                    have r2 := fun w' (u : Up wc w') => (R w' u).1.2.2.1
                    have r3 := fun w' (u : Up wc w') => (R w' u).1.2.2.2
                    have r4 := fun w' (u : Up wc w') => (R w' u).2.1.1
                    have r5 := fun w' (u : Up wc w') => (R w' u).2.1.2.1
                    have r6 := fun w' (u : Up wc w') => (R w' u).2.1.2.2.1
                    have r7 := fun w' (u : Up wc w') => (R w' u).2.1.2.2.2.1
                    have r8 := fun w' (u : Up wc w') => (R w' u).2.1.2.2.2.2.1
                    have r9 := fun w' (u : Up wc w') => (R w' u).2.1.2.2.2.2.2.1
                    have r10 := fun w' (u : Up wc w') => (R w' u).2.1.2.2.2.2.2.2
                    have r11 := fun w' (u : Up wc w') => (R w' u).2.2.1
                    have r12 := fun w' (u : Up wc w') => (R w' u).2.2.2.1
                    have r13 := fun w' (u : Up wc w') => (R w' u).2.2.2.2.1
                    have r14 := fun w' (u : Up wc w') => (R w' u).2.2.2.2.2
                    clear R
                    generalize checkE ⟨a0, a1, a2, a3, a4, a5, a6, a7, a8, a9, NT, SE, NN, TX, acc⟩ = CE at *
                    go_cut [10] (fun s wx => s = .int .i64 FE ∧ Up wc wx)
                    case first =>
                      go_region_held3 (fun w' => Up wc w') (first | assumption | exact Up.drew _ | exact Up.refl _ | exact Up.trans (by assumption) (Up.alloc' _ _) | exact Up.trans (by assumption) (Up.of (by assumption))) (first | (go_at_call 14; refine (kC _ (by first | assumption | exact Up.drew _ | exact Up.refl _)).mono ?_; rintro e w2 ⟨rfl, hb2⟩) | (go_at_call 28; refine (first2 _ _ _ _ _ (by first | exact Rd.newAtD _ [I64 _, I64 _] _ _ _ (by simp) | exact Rd.newAt _ [I64 _, I64 _] _ _ _ (by simp))).mono ?_; rintro e w' ⟨rfl, rfl⟩))
                      all_goals
                        clear r0 r1 r2 r3 r4 r5 r6 r7 r8 r9 r10 r11 r12 r13 r14 rE
                        go_wp2_with fail
                        go_meet
                        exact ⟨by rw [hfE.out], by assumption⟩
                    case rest =>
                      obtain ⟨rfl, hu⟩ := hcut
                      clear kC r0 r1 r2 r3 r4 r5 r6 r7 r8 r9 r10 r11 r12 r13 r14 rE
                      rename_i wd
                      have F := F.up hu
                      have hz := F.rz
                      have ho := F.ob
                      have hbe := F.be
                      have hown := hown.below (B := 0) hu.b
                      have hltB := F.lt
                      clear hu F hrO
                      by_cases hfe : FE = 0
                      · have t1 : (FE != 0) = false := by simpa using hfe
                        have hFR := Lib.hid (hfR.out.trans (if_pos hfe))
                        have hFE0 : Hid (fE l = 0) := HFE.out.trans hfe
                        clear hfR hfe
                        go_upto_region 23 with fail
                        refine wp_region_lit ?_
                        refine wpList_loadRow rfl _ _ rfl B _ _ _ (by go_simp) ho Tryd.underlying30 rfl (by kernel_rfl) ?_
                        refine wpList_storeRow rfl _ _ _ rfl w.heap.size _ zero15 (opC ⟨a0, a1, a2, a3, a4, a5, a6, a7, a8, a9, NT, SE, NN, TX, acc⟩ Ao co).toArray (by go_simp) (by go_simp) hz (by kernel_rfl) rfl (opC_one _ _ _) ?_
                        intro W hzW gW
                        have hbW := hbe.grown gW hbe.size (fun k e => by cases e; omega)
                        go_wp2_with fail
                        refine bodyPost_ret (results_row (g := w.heap.size) (u := .int .i64 0) rfl (by go_simp) (by go_simp) (load_row hzW Tryd.underlying30 rfl (by kernel_rfl))) rfl ?_
                        obtain ⟨A', c', hv', hcO, hrO⟩ := (Own.kept hown gW (Own.farRow hown (by omega))).rd
                        injection hv' with e1' _ e3'
                        subst e1' e3'
                        exact ⟨Ao, co, by rw [hFR.out, hFE0.out]; rfl, by rw [hFR.out]; exact hrO, by rw [hFR.out]; exact hcO, hbW⟩
                      · have t1 : (FE != 0) = true := by simpa using hfe
                        have hFR := Lib.hid (hfR.out.trans (if_neg hfe))
                        clear hfR hfe
                        go_upto_region 22 with fail
                        refine wp_region_lit ?_
                        refine wpList_plain rfl fun K hK => ?_
                        go_simp
                        refine hK _ _ ?_
                        clear hK K
                        refine wpList_plain rfl fun K hK => ?_
                        go_simp
                        refine hK _ _ ?_
                        clear hK K
                        refine wpList_storeRow rfl _ _ _ rfl w.heap.size _ zero15 (opC OP.zero none 0).toArray (by go_simp) (by go_simp; first | done | rfl) hz (by kernel_rfl) rfl (opC_one _ _ _) ?_
                        intro W hzW gW
                        have hbW := hbe.grown gW hbe.size (fun k e => by cases e; omega)
                        go_wp2_with fail
                        refine bodyPost_ret (results_row (g := w.heap.size) (u := .int .i64 FE) rfl (by go_simp) (by go_simp) (load_row hzW Tryd.underlying30 rfl (by kernel_rfl))) rfl ?_
                        exact ⟨none, 0, by rw [hFR.out, HFE.out]; rfl, by rw [hFR.out]; exact Rd.nil _ _, by rw [hFR.out]; exact Nat.le_refl _, hbW⟩
end Go.Proofs.YtfjiikcbcoohdaaDoor
