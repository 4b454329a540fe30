/-
  The walk of the statement FrameAll. Conditions: the argument reads as its type says.
-/
import Derived.Test.YthjmdfimnbmbfaaFrameSame
import Derived.Test.YthjmdfimnbmbfaaFrameLaws
namespace Go.Proofs.Ythjmdfimnbmbfaa
open Go.RowKit
set_option linter.unusedVariables false

/-- the call returns the kinds ks, the contents cs and the index n -/
def RetKs (ks : List Int) (cs : List (List UInt8)) (n : Int) (w : World) (en : Ending) (w' : World) : Prop :=
  ∃ (Ak : Option Addr) (ck : Nat) (Ac : Option Addr) (cc : Nat) (xs : List CT), en = .returned (.tuple #[.slice Ak ks.length ck, .slice Ac xs.length cc, .int .i64 n]) ∧ Rd w' Ak (ks.map I64) ∧ Rd w' Ac (xs.map CTv) ∧ (∀ x ∈ xs, Rd w' x.A (x.C.map U8)) ∧
    contents xs = cs ∧ Below w.heap.size w w'
theorem RetAll.ks {ps : List (Int × List UInt8)} {n : Int} {w : World} {en : Ending} {w' : World} (h : RetAll ps n w en w') {ks : List Int} {cs : List (List UInt8)} (e1 : ks = ps.map (·.1)) (e2 : cs = ps.map (·.2)) : RetKs ks cs n w en w' := by
  subst e1 e2
  obtain ⟨Ak, ck, Ac, cc, xs, h1, h2, h3, h4, h5, h6⟩ := h
  refine ⟨Ak, ck, Ac, cc, xs, by rw [h1, List.length_map], ?_, h3, h4, h5, h6⟩
  rw [List.map_map]
  exact h2
theorem all_len (b : List UInt8) : ∀ (f : Nat) (q : Int), (allF b f q).1.length ≤ f := by
  intro f
  induction f with
  | zero => intro q; simp [allF]
  | succ f ih =>
    intro q
    rw [allF]
    split
    · have := ih (opT b q); simp; omega
    · simp

set_option maxHeartbeats 1000000 in
theorem walk_FrameAll (w : World) (A : Option Addr) (c : Nat) (l : List UInt8) (h : Rd w A (l.map U8)) (hl : l.length ≤ maxLen) (hlc : l.length ≤ c) :
    Calls Try.prog 9 #[.slice A l.length c] w fun e w' => e = .returned (.bool true) ∧ Below w.heap.size w w' := by
  unfold maxLen at hl
  by_cases hf : l.length ≤ 3000
  · have p0 : decide (3000 < (l.length : Int)) = false := by simp; omega
    obtain ⟨ks, hks⟩ : ∃ ks, ks = (allR l).1.map (·.1) := ⟨_, rfl⟩
    obtain ⟨cs, hcs⟩ : ∃ cs, cs = (allR l).1.map (·.2) := ⟨_, rfl⟩
    have hkl : ks.length ≤ 3001 := by
      rw [hks, List.length_map]
      have := all_len l (l.length + 1) 0
      unfold allR
      omega
    have hkc : ks.length = cs.length := by rw [hks, hcs]; simp
    have K1 := Lib.hid (fun (w : World) A c (h1 : l.length ≤ c) (h : Rd w A (l.map U8)) => (all_any w A c l h1 h (by omega)).mono (fun _ _ h => h.ks hks hcs))
    have K2 := Lib.hid (fun (w : World) A c (h1 : l.length ≤ c) (h : Rd w A (l.map U8)) => (rall_any w A c l h1 h (by omega)).mono (fun _ _ h => h.ks hks hcs))
    have HC := Lib.hid hkc
    generalize (allR l).2 = n at *
    have q1 : (n == n) = true := by simp
    clear hks hcs hkc
    go_enter Try.func9, Try.ntmps9
    go_wp2_with fail
    refine (copied_any _ _ _ _ h (by omega)).mono ?_
    rintro e w1 ⟨A1, c1, rfl, hown1, hb1⟩
    go_wp2_with fail
    refine (K1.out _ _ _ hown1.cap hown1.rd').mono ?_
    rintro e w2 ⟨A2, c2, A3, c3, xs, rfl, r2, r3, rx, hx, hb2⟩
    have hb2' := step_below hb1 hb2
    have Hx := Lib.hid hx
    clear hx hown1 hb1 hb2
    go_wp2_with fail
    refine (K2.out _ _ _ hlc (h.below hb2')).mono ?_
    rintro e w3 ⟨A4, c4, A5, c5, ys, rfl, r4, r5, ry, hy, hb3⟩
    have hb3' := step_below hb2' hb3
    have Hy := Lib.hid hy
    clear hy
    have hS := Lib.hid (same_any w3 ks xs ys A2 A4 A3 A5 c2 c4 c3 c5 (r2.below hb3) r4 (r3.below hb3) r5 (fun x hx => (rx x hx).below hb3) ry (by rw [Hx.out, Hy.out]) (by have e1 := congrArg List.length Hx.out; rw [HC.out, ← e1]; simp [contents]) (by omega))
    clear r2 r4 r3 r5 rx ry hb3 hb2' K1 K2
    go_wp2_with fail
    refine hS.out.mono ?_
    rintro e w4 ⟨rfl, hb4⟩
    have hb4' := step_below hb3' hb4
    clear hS
    go_wp2_with fail
    refine (awake_any _).mono ?_
    rintro e w5 ⟨rfl, hb5⟩
    go_wp2_with fail
    go_ret
    exact ⟨rfl, step_below hb4' hb5⟩
  · have p0 : decide (3000 < (l.length : Int)) = true := by simp; omega
    go_enter Try.func9, Try.ntmps9
    go_wp2_with fail
    refine (awake_any _).mono ?_
    rintro e w' ⟨rfl, hb⟩
    go_wp2_with fail
    go_ret
    exact ⟨rfl, hb⟩
end Go.Proofs.Ythjmdfimnbmbfaa
