/-
  The walks of Open of layer 6 and of the reference. Conditions: at most a thousand million bytes.
-/
import Derived.Test.YtcomeidcmcegfaaGreatDoorFrameCrc
import Derived.Test.YtcomeidcmcegfaaGreatDoorZG
import Derived.Test.YtcomeidcmcegfaaGreatDoorZAA
import Derived.Test.YtcomeidcmcegfaaGreatDoorZD
import Derived.ChangeKeysEq
import Derived.IntWalk
import Derived.Deep.QuietTactic
import Derived.BigQuiet
namespace Go.Proofs.YtcomeidcmcegfaaGreatDoor
open Go.RowKit
set_option linter.unusedVariables false
def RetOpen (b : List UInt8) (a : Int) (w : World) (en : Ending) (w' : World) : Prop :=
 ∃ A c, en = .returned (.tuple #[.int .i64 (frK b a), .slice A (frC b a).length c, .int .i64 (frT b a), .int .i64 (frE b a)]) ∧ Rd w' A ((frC b a).map U8) ∧ (frC b a).length ≤ c ∧ Below w.heap.size w w'
def Where (A0 A : Option Addr) (w : World) : Prop := ∀ x, A = some x → (∃ y, A0 = some y ∧ x.block = y.block) ∨ w.heap.size ≤ x.block
theorem Where.none (A0 : Option Addr) (w : World) : Where A0 none w := fun x h => by cases h
theorem Where.offBy {A0 : Option Addr} {c k : Nat} {w : World} : Where A0 (offBy A0 c k) w := by
 intro x h
 unfold Go.Proofs.YtcomeidcmcegfaaGreatDoor.offBy at h
 split at h
 ·exact .inl ⟨x, h, rfl⟩
 ·rcases A0 with _ | y
  ·cases h
  ·simp only [Option.map_some, Option.some.injEq] at h
   subst h
   exact .inl ⟨y, rfl, by unfold Addr.add; split <;> rfl⟩
theorem Where.own {A0 A : Option Addr} {w w1 w' : World} {e : TypeId} {size n c : Nat} {xs : List Value} (h : Own w' w1.heap.size e size (.slice A n c) n xs) (hs : w.heap.size ≤ w1.heap.size) : Where A0 A w := by
 intro x hx
 subst hx
 exact .inr (Nat.le_trans hs (h.lt x.block rfl).1)
def RetOpenW (A0 : Option Addr) (b : List UInt8) (a : Int) (w : World) (en : Ending) (w' : World) : Prop :=
 ∃ A c, en = .returned (.tuple #[.int .i64 (frK b a), .slice A (frC b a).length c, .int .i64 (frT b a), .int .i64 (frE b a)]) ∧ Rd w' A ((frC b a).map U8) ∧ (frC b a).length ≤ c ∧ Below w.heap.size w w' ∧ Where A0 A w
theorem RetOpenW.weak {A0 : Option Addr} {b : List UInt8} {a : Int} {w : World} {en : Ending} {w' : World} (h : RetOpenW A0 b a w en w') : RetOpen b a w en w' := by
 obtain ⟨A, c, h1, h2, h3, h4, _⟩ := h
 exact ⟨A, c, h1, h2, h3, h4⟩
theorem retOpen {A0 : Option Addr} {b : List UInt8} {a e K T : Int} {C : List UInt8} {w w' : World} {A : Option Addr} {c : Nat} (h : frR b a = (e, K, C, T)) (hr : Rd w' A (C.map U8)) (hc : C.length ≤ c) (hb : Below w.heap.size w w') (hw : Where A0 A w) :
 RetOpenW A0 b a w (.returned (.tuple #[.int .i64 K, .slice A C.length c, .int .i64 T, .int .i64 e])) w' := by
 unfold RetOpenW frK frC frT frE; rw [h]; exact ⟨A, c, rfl, hr, hc, hb, hw⟩
theorem retOpen0 {A0 : Option Addr} {b : List UInt8} {a e : Int} {w w' : World} (h : frR b a = (e, 0, [], 0)) (hb : Below w.heap.size w w') :
 RetOpenW A0 b a w (.returned (.tuple #[.int .i64 0, .slice none 0 0, .int .i64 0, .int .i64 e])) w' := retOpen h (Rd.nil _ _) (Nat.le_refl _) hb (Where.none _ _)
theorem arr4_eq (a0 a1 a2 a3 b0 b1 b2 b3 : Int) (w : World) : (Op.equalIn 10000 74 (.agg #[.int .u8 a0, .int .u8 a1, .int .u8 a2, .int .u8 a3]) (.agg #[.int .u8 b0, .int .u8 b1, .int .u8 b2, .int .u8 b3])).run Tryz.prog w = .ok (a0 == b0 && a1 == b1 && a2 == b2 && a3 == b3) w := by
 obtain ⟨i0, hi0, hz0, hz1, hz2⟩ := info_parts info_u8
 have hc : Tryz.prog.cellsOf 5 = 1 := by kernel_rfl
 have hp : Tryz.prog.plainKey 5 = true := by kernel_rfl
 have h := run_equalIn_array (P := Tryz.prog) w 9999 #[.int .u8 a0, .int .u8 a1, .int .u8 a2, .int .u8 a3] #[.int .u8 b0, .int .u8 b1, .int .u8 b2, .int .u8 b3] Tryz.underlying74 hi0
 have he : ∀ a b : Int, (Op.equalIn 9999 5 (.int .u8 a) (.int .u8 b)).run Tryz.prog w = .ok (a == b) w := fun a b => run_equalIn_int w 9998 5 .u8 .u8 a b Tryz.underlying5
 have p0 : ∀ x0 x1 x2 x3 : Value, (part 5 #[x0, x1, x2, x3] 0).run Tryz.prog w = .ok x0 w := fun _ _ _ _ => run_part_plain w hp rfl
 have p1 : ∀ x0 x1 x2 x3 : Value, (part 5 #[x0, x1, x2, x3] 1).run Tryz.prog w = .ok x1 w := fun _ _ _ _ => run_part_plain w hp rfl
 have p2 : ∀ x0 x1 x2 x3 : Value, (part 5 #[x0, x1, x2, x3] 2).run Tryz.prog w = .ok x2 w := fun _ _ _ _ => run_part_plain w hp rfl
 have p3 : ∀ x0 x1 x2 x3 : Value, (part 5 #[x0, x1, x2, x3] 3).run Tryz.prog w = .ok x3 w := fun _ _ _ _ => run_part_plain w hp rfl
 rw [show (10000 : Nat) = 9999 + 1 from rfl, h, hc, show List.range 4 = [0, 1, 2, 3] from rfl]
 simp only [Op.eqItems, Nat.mul_one, Sem.run_bind, p0, p1, p2, p3, he, Result.andThen_ok, Sem.run_ite, Sem.run_pure]
 cases a0 == b0 <;> cases a1 == b1 <;> cases a2 == b2 <;> cases a3 == b3 <;> rfl
theorem arr4_neq (a0 a1 a2 a3 b0 b1 b2 b3 : Int) (w : World) : (binOp .neq 74 (.agg #[.int .u8 a0, .int .u8 a1, .int .u8 a2, .int .u8 a3]) (.agg #[.int .u8 b0, .int .u8 b1, .int .u8 b2, .int .u8 b3])).run Tryz.prog w = .ok (.bool (!(a0 == b0 && a1 == b1 && a2 == b2 && a3 == b3))) w := by
 rw [run_neq_struct, arr4_eq]; rfl
theorem four_eq (y0 y1 y2 y3 : UInt8) (n : Nat) : ([y0, y1, y2, y3] = tail4 n) ↔ ((y0.toNat : Int) == ((n / 256 ^ 0 % 256 : Nat) : Int) && (y1.toNat : Int) == ((n / 256 ^ 1 % 256 : Nat) : Int) && (y2.toNat : Int) == ((n / 256 ^ 2 % 256 : Nat) : Int) && (y3.toNat : Int) == ((n / 256 ^ 3 % 256 : Nat) : Int)) = true := by
 have hb : ∀ (y : UInt8) (x : Nat), (y = UInt8.ofNat (x % 256)) ↔ (y.toNat : Int) = ((x % 256 : Nat) : Int) := fun y x => by
  constructor
  ·intro h; subst h; rw [UInt8.toNat_ofNat']; omega
  ·intro h; apply UInt8.toNat_inj.1; rw [UInt8.toNat_ofNat']; omega
 simp only [tail4, List.cons.injEq, and_true, hb, Bool.and_eq_true, beq_iff_eq, Nat.pow_zero, Nat.div_one, Nat.pow_one, and_assoc]
def RetStr4 (L : List UInt8) (w : World) (e : Ending) (w' : World) : Prop :=
 ∃ A c, e = .returned (.slice A 4 c) ∧ Up w w' ∧ ∀ w'', Up w' w'' → (convert 22 9 (.slice A 4 c)).run Tryz.prog w'' = .ok (.string ⟨L.toArray⟩) w''
theorem retStr4 {n : Nat} {w : World} {e : Ending} {w' : World} (h : RetNew U8 5 (tail4 n) w e w') : RetStr4 (tail4 n) w e w' := by
 obtain ⟨A, c, he, hr, hb⟩ := h.rd
 exact ⟨A, c, he, Up.of hb, fun w'' h => str_of w'' A c (tail4 n) (h.rd hr)⟩
theorem four (l : List UInt8) (h : l.length = 4) : ∃ x0 x1 x2 x3 : UInt8, l = [x0, x1, x2, x3] := by
 match l, h with
 | [x0, x1, x2, x3], _ => exact ⟨x0, x1, x2, x3, rfl⟩
set_option maxRecDepth 20000 in
set_option maxHeartbeats 4000000 in
theorem open_anyW (w : World) (A : Option Addr) (c : Nat) (b : List UInt8) (hbc : b.length ≤ c) (h : Rd w A (b.map U8)) (hl : b.length ≤ 1000000000) (a : Int) (lo : -9223372036854775808 ≤ a) (hi : a ≤ 9223372036854775807) :
 Calls Tryz.prog 38 #[.slice A b.length c, .int .i64 a] w (RetOpenW A b a w) := by
 obtain ⟨i0, hi0, hz0, hz1, hz2⟩ := info_parts info_u8
 by_cases h0 : a < 0
 ·have H := Lib.hid (op_range (b := b) (Or.inl h0))
  go_enter Tryz.func38, Tryz.ntmps38
  go_wp2_with fail
  exact bodyPost_ret (v := .tuple #[.int .i64 0, .slice none 0 0, .int .i64 0, .int .i64 2]) (by simp [results, Tryz.results38, go_sem]) rfl (retOpen0 H.out (Below.refl _ _))
 ·by_cases h1 : (b.length : Int) < a
  ·have H := Lib.hid (op_range (b := b) (Or.inr h1))
   go_enter Tryz.func38, Tryz.ntmps38
   go_wp2_with fail
   exact bodyPost_ret (v := .tuple #[.int .i64 0, .slice none 0 0, .int .i64 0, .int .i64 2]) (by simp [results, Tryz.results38, go_sem]) rfl (retOpen0 H.out (Below.refl _ _))
  ·obtain ⟨k, rfl⟩ : ∃ k : Nat, a = k := ⟨a.toNat, by omega⟩
   have hk : k ≤ b.length := by omega
   have p1 : decide (b.length < k) = false := by simpa using hk
   clear h0 h1 lo hi
   by_cases h2 : k = b.length
   ·have H := Lib.hid (op_end h2)
    have p2 : ((k : Int) == (b.length : Int)) = true := by rw [h2]; simp
    clear h2
    go_enter Tryz.func38, Tryz.ntmps38
    go_wp2_with fail
    exact bodyPost_ret (v := .tuple #[.int .i64 0, .slice none 0 0, .int .i64 0, .int .i64 4]) (by simp [results, Tryz.results38, go_sem]) rfl (retOpen0 H.out (Below.refl _ _))
   ·have p2 : ((k : Int) == (b.length : Int)) = false := beq_eq_false_iff_ne.2 (by omega)
    have hk1 : k < b.length := by omega
    clear h2
    obtain ⟨bb, off, rfl, hbb, hck⟩ := h.at8 hk1
    by_cases h3 : b[k].toNat = 76
    ·have p3 : ((b[k].toNat : Int) != 76) = false := by simp [h3]
     by_cases h4 : k + 1 = b.length
     ·have H := Lib.hid (op_one hk1 h3 h4)
      have p4 : ((k : Int) + 1 == (b.length : Int)) = true := by simp; omega
      clear h4 h3
      generalize b[k].toNat = x0 at *
      go_enter Tryz.func38, Tryz.ntmps38
      go_wp2_with fail
      exact bodyPost_ret (v := .tuple #[.int .i64 0, .slice none 0 0, .int .i64 0, .int .i64 4]) (by simp [results, Tryz.results38, go_sem]) rfl (retOpen0 H.out (Below.refl _ _))
     ·have p4 : ((k : Int) + 1 == (b.length : Int)) = false := beq_eq_false_iff_ne.2 (by omega)
      have hk2 : k + 1 < b.length := by omega
      clear h4
      obtain ⟨bb', off', eA, _, hck1⟩ := h.at8 hk2
      injection eA with eA
      injection eA with eA1 eA2
      subst eA1 eA2
      by_cases h5 : b[k + 1].toNat = 0
      ·have H := Lib.hid (op_zero hk2 h3 h5)
       have p5 : ((b[k + 1].toNat : Int) == 0) = true := by simp [h5]
       clear h3 h5
       generalize b[k].toNat = x0 at *
       generalize b[k + 1].toNat = x1 at *
       go_enter Tryz.func38, Tryz.ntmps38
       go_wp2_with fail
       exact bodyPost_ret (v := .tuple #[.int .i64 0, .slice none 0 0, .int .i64 0, .int .i64 3]) (by simp [results, Tryz.results38, go_sem]) rfl (retOpen0 H.out (Below.refl _ _))
      ·have hm := Marked.mk' hk2 h3 h5
       have p5 : ((b[k + 1].toNat : Int) == 0) = false := by simp [h5]
       have g1 := Lib.hid (show b.getD (k + 1) 0 = b[k + 1] by simp [List.getD, hk2])
       clear h3 h5
       have hI : Calls Tryz.prog 63 #[.slice (some ⟨bb, off, none⟩) b.length c, .int .i64 ((k : Int) + 2)] w (RetRd b ((k + 2 : Nat) : Int) w) := by
        have e : ((k + 2 : Nat) : Int) = (k : Int) + 2 := by omega
        rw [← e]
        exact int_any _ _ _ _ h (by omega) _ (by omega) (by omega)
       by_cases h6 : rdE b ((k + 2 : Nat) : Int) = 0
       ·obtain ⟨b1, b2, b3, b4⟩ := read_bound h6
        unfold RetRd at hI
        rw [h6] at hI
        by_cases h7 : rdN b ((k + 2 : Nat) : Int) < 0
        ·have H := Lib.hid (op_size hm h6 (Or.inl h7))
         clear h6
         have p6 : decide (rdN b ((k + 2 : Nat) : Int) < 0) = true := by simpa using h7
         generalize rdN b ((k + 2 : Nat) : Int) = N at *
         generalize rdT b ((k + 2 : Nat) : Int) = T at *
         generalize b[k].toNat = x0 at *
         generalize b[k + 1].toNat = x1 at *
         go_enter Tryz.func38, Tryz.ntmps38
         go_wp2_with fail
         refine hI.mono ?_
         rintro e w' ⟨rfl, rfl⟩
         clear hI
         go_wp2_with fail
         exact bodyPost_ret (v := .tuple #[.int .i64 0, .slice none 0 0, .int .i64 0, .int .i64 3]) (by simp [results, Tryz.results38, go_sem]) rfl (retOpen0 H.out (Below.refl _ _))
        ·have p6 : decide (rdN b ((k + 2 : Nat) : Int) < 0) = false := by simpa using h7
         by_cases h8 : 1048576 < rdN b ((k + 2 : Nat) : Int)
         ·have H := Lib.hid (op_size hm h6 (Or.inr h8))
          clear h6
          have p7 : decide (1048576 < rdN b ((k + 2 : Nat) : Int)) = true := by simpa using h8
          generalize rdN b ((k + 2 : Nat) : Int) = N at *
          generalize rdT b ((k + 2 : Nat) : Int) = T at *
          generalize b[k].toNat = x0 at *
          generalize b[k + 1].toNat = x1 at *
          go_enter Tryz.func38, Tryz.ntmps38
          go_wp2_with fail
          refine hI.mono ?_
          rintro e w' ⟨rfl, rfl⟩
          clear hI
          go_wp2_with fail
          exact bodyPost_ret (v := .tuple #[.int .i64 0, .slice none 0 0, .int .i64 0, .int .i64 3]) (by simp [results, Tryz.results38, go_sem]) rfl (retOpen0 H.out (Below.refl _ _))
         ·have p7 : decide (1048576 < rdN b ((k + 2 : Nat) : Int)) = false := by simpa using h8
          by_cases h9 : (b.length : Int) - rdT b ((k + 2 : Nat) : Int) < rdN b ((k + 2 : Nat) : Int) + 4
          ·have H := Lib.hid (op_short hm h6 (by omega) h9)
           clear h6
           generalize rdN b ((k + 2 : Nat) : Int) = N at *
           generalize rdT b ((k + 2 : Nat) : Int) = T at *
           generalize b[k].toNat = x0 at *
           generalize b[k + 1].toNat = x1 at *
           go_enter Tryz.func38, Tryz.ntmps38
           go_wp2_with fail
           refine hI.mono ?_
           rintro e w' ⟨rfl, rfl⟩
           clear hI
           go_wp2_with fail
           exact bodyPost_ret (v := .tuple #[.int .i64 0, .slice none 0 0, .int .i64 0, .int .i64 4]) (by simp [results, Tryz.results38, go_sem]) rfl (retOpen0 H.out (Below.refl _ _))
          ·obtain ⟨T, N, hf⟩ := Framed.of hm h6 (by omega) h9
           rw [hf.n, hf.t] at hI
           have f1 := hf.le
           have f2 := hf.lt
           have f3 := hf.fit
           have hlN : ((b.drop T).take N).length = N := by simp; omega
           have hlM : ((b.drop k).take (T + N - k)).length = T + N - k := by simp; omega
           obtain ⟨y0, y1, y2, y3, hy⟩ := four ((b.drop (T + N)).take 4) (by simp; omega)
           have hOK := Lib.hid (fun h6 => op_ok hf h6)
           have hNO := Lib.hid (fun h6 => op_sum hf h6)
           rw [g1.out] at hOK
           clear p6 p7 h7 h8 h9 h6 b1 b2 b3 b4 hf hm
           clear g1
           have sA := slice_at (some ⟨bb, off, none⟩) c b.length hbc ((T : Int) + N) ((T : Int) + N + 4) (T + N) 4 (by omega) (by omega) (by omega)
           have sB := slice_at (some ⟨bb, off, none⟩) c b.length hbc (k : Int) ((T : Int) + N) k (T + N - k) rfl (by omega) (by omega)
           have hoA : offBy (some ⟨bb, off, none⟩) c (T + N) = some ⟨bb, off + (T + N), none⟩ := by unfold offBy; rw [if_neg (by omega)]; show some ((⟨bb, off, none⟩ : Addr).add _) = _; rw [add_plain]
           have hrB := h.off hbc k (T + N - k) (by omega)
           rw [hoA] at sA
           have sC := slice_at3 (some ⟨bb, off, none⟩) c b.length hbc (T : Int) ((T : Int) + N) T N rfl rfl (by omega)
           have hrC := h.off3 T N (by omega)
           have hAt : ∀ w', (Instr.arrayAt 74 (.slice (some ⟨bb, off + (T + N), none⟩) 4 (c - (T + N)))).run Tryz.prog w' = .ok (.pointer (some ⟨bb, off + (T + N), none⟩)) w' := fun w' => run_arrayAt w' _ _ 4 _ _ _ Tryz.underlying74 (by omega)
           have hcell : ∀ j (hj : j < 4), w.cell? ⟨bb, off + (T + N) + j, none⟩ = some (U8 ([y0, y1, y2, y3][j])) := fun j hj => by
            obtain ⟨_, _, e, _, hc⟩ := h.at8 (k := T + N + j) (by omega)
            injection e with e
            injection e with e1 e2
            subst e1 e2
            rw [Nat.add_assoc, hc]
            have : ([y0, y1, y2, y3] : List UInt8)[j] = b[T + N + j] := by simp only [← hy]; simp
            rw [this]; rfl
           have l0 : ∀ w', Up w w' → w'.cell? ⟨bb, off + (T + N), none⟩ = some (.int .u8 (y0.toNat : Int)) := fun w' hu => hu.cell (hcell 0 (by omega))
           have l1 : ∀ w', Up w w' → w'.cell? ⟨bb, off + (T + N) + 1, none⟩ = some (.int .u8 (y1.toNat : Int)) := fun w' hu => hu.cell (hcell 1 (by omega))
           have l2 : ∀ w', Up w w' → w'.cell? ⟨bb, off + (T + N) + 2, none⟩ = some (.int .u8 (y2.toNat : Int)) := fun w' hu => hu.cell (hcell 2 (by omega))
           have l3 : ∀ w', Up w w' → w'.cell? ⟨bb, off + (T + N) + 3, none⟩ = some (.int .u8 (y3.toNat : Int)) := fun w' hu => hu.cell (hcell 3 (by omega))
           clear hcell hoA
           rw [hy] at hOK hNO
           clear hy
           have kC : ∀ w', Up w w' → Calls Tryz.prog 43 #[.slice (offBy (some ⟨bb, off, none⟩) c k) (T + N - k) (c - k)] w' (RetTail (crc ((b.drop k).take (T + N - k))) w') := fun w' hu => by
            have := crc4_any w' (offBy (some ⟨bb, off, none⟩) c k) (c - k) ((b.drop k).take (T + N - k)) (hu.rd hrB) (by omega)
            rwa [hlM] at this
           have hcr := crc_lt ((b.drop k).take (T + N - k))
           generalize crc ((b.drop k).take (T + N - k)) = cr at *
           generalize offBy (some ⟨bb, off, none⟩) c k = AB at *
           have hWh := Lib.hid (Where.offBy (A0 := some ⟨bb, off, none⟩) (c := T + N) (k := T) (w := w))
           generalize offBy (some ⟨bb, off, none⟩) (T + N) T = AC at *
           generalize (b.drop T).take N = CC at *
           clear hlM hrB
           have hx1 := b[k + 1].toNat_lt
           generalize b[k].toNat = x0 at *
           generalize b[k + 1].toNat = x1 at *
           have ewx : IntKind.i64.wrap (x1 : Int) = (x1 : Int) := IntWalk.i64_in _ (by omega)
           have hcmp := Lib.hid (four_eq y0 y1 y2 y3 cr)
           have hneq := arr4_neq (y0.toNat : Int) (y1.toNat : Int) (y2.toNat : Int) (y3.toNat : Int) ((cr / 256 ^ 0 % 256 : Nat) : Int) ((cr / 256 ^ 1 % 256 : Nat) : Int) ((cr / 256 ^ 2 % 256 : Nat) : Int) ((cr / 256 ^ 3 % 256 : Nat) : Int)
           unfold RetTail tb at kC
           generalize ((cr / 256 ^ 0 % 256 : Nat) : Int) = t0 at *
           generalize ((cr / 256 ^ 1 % 256 : Nat) : Int) = t1 at *
           generalize ((cr / 256 ^ 2 % 256 : Nat) : Int) = t2 at *
           generalize ((cr / 256 ^ 3 % 256 : Nat) : Int) = t3 at *
           generalize ((y0.toNat : Int) == t0 && (y1.toNat : Int) == t1 && (y2.toNat : Int) == t2 && (y3.toNat : Int) == t3) = qq at *
           have ewr : IntKind.i64.wrap ((T : Int) + N + 4) = (T : Int) + N + 4 := IntWalk.i64_in _ (by omega)
           go_enter Tryz.func38, Tryz.ntmps38
           go_wp2_with fail
           refine hI.mono ?_
           rintro e w' ⟨rfl, rfl⟩
           clear hI
           go_wp2_with fail
           refine wp_region_noPanic ?_
           refine wp_region_held_drew (S := fun w' => Up w w') (by kernel_rfl) (Up.drew w) (fun hHeld => ?_)
           refine tk 0 72 (v := ?_) ?_ ?_
           rotate_left
           ·intro w' hSw; clear hSw; go_simp; try (with_reducible rfl)
           try simp only [tkA, tkB, tkC]
           refine tk 1 73 (v := ?_) ?_ ?_
           rotate_left
           ·intro w' hSw; clear hSw; go_simp; try (with_reducible rfl)
           try simp only [tkA, tkB, tkC]
           refine tk 2 74 (v := ?_) ?_ ?_
           rotate_left
           ·intro w' hSw; clear hSw; go_simp; try (with_reducible rfl)
           try simp only [tkA, tkB, tkC]
           refine tk 3 75 (v := ?_) ?_ ?_
           rotate_left
           ·intro w' hSw; clear hSw; go_simp; try (with_reducible rfl)
           try simp only [tkA, tkB, tkC]
           refine tk 4 76 (v := ?_) ?_ ?_
           rotate_left
           ·intro w' hS0; go_simp; try (with_reducible rfl)
           try simp only [tkA, tkB, tkC]
           refine tk 5 77 (v := ?_) ?_ ?_
           rotate_left
           ·intro w' hSw; clear hSw; go_simp; try (with_reducible rfl)
           try simp only [tkA, tkB, tkC]
           refine tk 6 78 (v := ?_) ?_ ?_
           rotate_left
           ·intro w' hS0; go_simp; try (with_reducible rfl)
           try simp only [tkA, tkB, tkC]
           refine tk 7 79 (v := ?_) ?_ ?_
           rotate_left
           ·intro w' hSw; clear hSw; go_simp; try (with_reducible rfl)
           try simp only [tkA, tkB, tkC]
           refine tk 8 80 (v := ?_) ?_ ?_
           rotate_left
           ·intro w' hSw; clear hSw; go_simp; try (with_reducible rfl)
           try simp only [tkA, tkB, tkC]
           refine tk 9 81 (v := ?_) ?_ ?_
           rotate_left
           ·intro w' hSw; clear hSw; go_simp; try (with_reducible rfl)
           try simp only [tkA, tkB, tkC]
           refine tk 10 82 (v := ?_) ?_ ?_
           rotate_left
           ·intro w' hS0; go_simp; try (with_reducible rfl)
           try simp only [tkA, tkB, tkC]
           refine wpAnyH_ready (rs := [11]) (by kernel_rfl) (by simp) ?_
           refine AllReadyH.cons rfl (fun K hK => ?_) AllReadyH.nil
           go_simp
           refine (kC _ (Up.drew w)).mono ?_
           rintro e W1 ⟨rfl, hb1⟩
           have u1 : Up w W1 := Up.trans (Up.drew w) (Up.of hb1)
           clear hb1
           refine hK.out _ _ u1 (fun hHeld => ?_)
           clear hK K hHeld
           refine wpAnyH_more (S' := fun w' => Up W1 w') (fun w' h => Up.trans u1 h) _ _ _ _ ?_
           have hHeld := Up.refl W1
           refine tk 12 84 (v := ?_) ?_ ?_
           rotate_left
           ·intro w' hSw; clear hSw; go_simp; try (with_reducible rfl)
           try simp only [tkA, tkB, tkC]
           refine wpAnyH_done (by kernel_rfl) ?_ _
           refine NoPanic.normal ?_
           clear hHeld
           clear kC hneq sA hAt l0 l1 l2 l3 sB hcr
           have HlN := Lib.hid hlN
           clear hlN
           rcases qq with _ | _
           ·have H := Lib.hid (hNO.out (fun e => by have := hcmp.out.1 e; cases this))
            go_wp2_with fail
            exact bodyPost_ret (v := .tuple #[.int .i64 0, .slice none 0 0, .int .i64 0, .int .i64 6]) (by simp [results, Tryz.results38, go_sem]) rfl (retOpen0 H.out u1.b)
           ·have H := Lib.hid (hOK.out (hcmp.out.2 rfl))
            have ldx : ∀ w', Up W1 w' → w'.cell? ⟨bb, off + (k + 1), none⟩ = some (.int .u8 (x1 : Int)) := fun w' hu => (u1.trans hu).cell hck1
            have ew2 : IntKind.i64.wrap ((k : Int) + 1) = (k : Int) + 1 := IntWalk.i64_in _ (by omega)
            have ek1 : ((k : Int) + 1).toNat = k + 1 := by omega
            have ek2 : (0 : Int) ≤ (k : Int) + 1 := by omega
            have ek3 : (k : Int) + 1 < (b.length : Int) := by omega
            go_wp2_with fail
            refine wp_region_noPanic ?_
            refine wp_region_held_drew (S := fun w' => Up W1 w') (by kernel_rfl) (Up.drew W1) (fun hHeld => ?_)
            refine tk 0 85 (v := ?_) ?_ ?_
            rotate_left
            ·intro w' hSw; clear hSw; go_simp; try (with_reducible rfl)
            try simp only [tkA, tkB, tkC]
            refine tk 1 86 (v := ?_) ?_ ?_
            rotate_left
            ·intro w' hSw; clear hSw; go_simp; try (with_reducible rfl)
            try simp only [tkA, tkB, tkC]
            refine tk 2 87 (v := ?_) ?_ ?_
            rotate_left
            ·intro w' hSw; clear hSw; go_simp; try (with_reducible rfl)
            try simp only [tkA, tkB, tkC]
            refine tk 3 88 (v := ?_) ?_ ?_
            rotate_left
            ·intro w' hSw; clear hSw; go_simp; try (with_reducible rfl)
            try simp only [tkA, tkB, tkC]
            refine tk 4 89 (v := ?_) ?_ ?_
            rotate_left
            ·intro w' hS0; go_simp; try (with_reducible rfl)
            try simp only [tkA, tkB, tkC]
            refine tk 5 90 (v := ?_) ?_ ?_
            rotate_left
            ·intro w' hS0; go_simp; try (with_reducible rfl)
            try simp only [tkA, tkB, tkC]
            refine tk 6 91 (v := ?_) ?_ ?_
            rotate_left
            ·intro w' hSw; clear hSw; go_simp; try (with_reducible rfl)
            try simp only [tkA, tkB, tkC]
            refine tk 7 92 (v := ?_) ?_ ?_
            rotate_left
            ·intro w' hSw; clear hSw; go_simp; try (with_reducible rfl)
            try simp only [tkA, tkB, tkC]
            refine tk 8 93 (v := ?_) ?_ ?_
            rotate_left
            ·intro w' hSw; clear hSw; go_simp; try (with_reducible rfl)
            try simp only [tkA, tkB, tkC]
            refine tk 9 94 (v := ?_) ?_ ?_
            rotate_left
            ·intro w' hSw; clear hSw; go_simp; try (with_reducible rfl)
            try simp only [tkA, tkB, tkC]
            refine tk 10 95 (v := ?_) ?_ ?_
            rotate_left
            ·intro w' hS0; go_simp; try (with_reducible rfl)
            try simp only [tkA, tkB, tkC]
            refine tk 11 96 (v := ?_) ?_ ?_
            rotate_left
            ·intro w' hSw; clear hSw; go_simp; try (with_reducible rfl)
            try simp only [tkA, tkB, tkC]
            refine tk 12 97 (v := ?_) ?_ ?_
            rotate_left
            ·intro w' hSw; clear hSw; go_simp; try (with_reducible rfl)
            try simp only [tkA, tkB, tkC]
            refine tk 13 4 (v := ?_) ?_ ?_
            rotate_left
            ·intro w' hSw; clear hSw; go_simp; try (with_reducible rfl)
            try simp only [tkA, tkB, tkC]
            refine tk 14 5 (v := ?_) ?_ ?_
            rotate_left
            ·intro w' hSw; clear hSw; go_simp; try (with_reducible rfl)
            try simp only [tkA, tkB, tkC]
            refine tk 15 6 (v := ?_) ?_ ?_
            rotate_left
            ·intro w' hSw; clear hSw; go_simp; try (with_reducible rfl)
            try simp only [tkA, tkB, tkC]
            refine tk 16 7 (v := ?_) ?_ ?_
            rotate_left
            ·intro w' hSw; clear hSw; go_simp; try (with_reducible rfl)
            try simp only [tkA, tkB, tkC]
            refine wpAnyH_done (by kernel_rfl) ?_ _
            refine NoPanic.normal ?_
            clear hHeld
            go_wp2
            have hR := retOpen (A := AC) (c := N) (w := w) (w' := W1.drew) H.out ((u1.trans (Up.drew W1)).rd hrC) (Nat.le_of_eq HlN.out) (u1.trans (Up.drew W1)).b hWh.out
            rw [HlN.out] at hR
            exact bodyPost_ret (v := .tuple #[.int .i64 x1, .slice AC N N, .int .i64 ((T : Int) + N + 4), .int .i64 0]) (by simp [results, Tryz.results38, go_sem]) rfl hR
       ·have H := Lib.hid (op_int hm h6)
        have hI' : Calls Tryz.prog 63 #[.slice (some ⟨bb, off, none⟩) b.length c, .int .i64 ((k : Int) + 2)] w (fun e w' => e = .returned (.tuple #[.int .i64 0, .int .i64 0, .int .i64 (rdE b ((k + 2 : Nat) : Int))]) ∧ w = w') := by
         have e1 : rdN b ((k + 2 : Nat) : Int) = 0 := by unfold rdN; rw [if_neg h6]
         have e2 : rdT b ((k + 2 : Nat) : Int) = 0 := by unfold rdT; rw [if_neg h6]
         unfold RetRd at hI; rw [e1, e2] at hI; exact hI
        have p6 : (rdE b ((k + 2 : Nat) : Int) != 0) = true := by simp; exact h6
        clear h6 hI
        generalize rdE b ((k + 2 : Nat) : Int) = E at *
        generalize b[k].toNat = x0 at *
        generalize b[k + 1].toNat = x1 at *
        go_enter Tryz.func38, Tryz.ntmps38
        go_wp2_with fail
        refine hI'.mono ?_
        rintro e w' ⟨rfl, rfl⟩
        clear hI'
        go_wp2_with fail
        exact bodyPost_ret (v := .tuple #[.int .i64 0, .slice none 0 0, .int .i64 0, .int .i64 E]) (by simp [results, Tryz.results38, go_sem]) rfl (retOpen0 H.out (Below.refl _ _))
    ·have H := Lib.hid (op_mark hk1 h3)
     have p3 : ((b[k].toNat : Int) != 76) = true := by simp; omega
     clear h3
     generalize b[k].toNat = x0 at *
     go_enter Tryz.func38, Tryz.ntmps38
     go_wp2_with fail
     exact bodyPost_ret (v := .tuple #[.int .i64 0, .slice none 0 0, .int .i64 0, .int .i64 3]) (by simp [results, Tryz.results38, go_sem]) rfl (retOpen0 H.out (Below.refl _ _))
set_option maxRecDepth 20000 in
set_option maxHeartbeats 4000000 in
theorem ropen_anyW (w : World) (A : Option Addr) (c : Nat) (b : List UInt8) (hbc : b.length ≤ c) (h : Rd w A (b.map U8)) (hl : b.length ≤ 1000000000) (a : Int) (lo : -9223372036854775808 ≤ a) (hi : a ≤ 9223372036854775807) :
 Calls Tryz.prog 30 #[.slice A b.length c, .int .i64 a] w (RetOpenW A b a w) := by
 obtain ⟨i0, hi0, hz0, hz1, hz2⟩ := info_parts info_u8
 by_cases h0 : a < 0
 ·have H := Lib.hid (op_range (b := b) (Or.inl h0))
  go_enter Tryz.func30, Tryz.ntmps30
  go_wp2_with fail
  exact bodyPost_ret (v := .tuple #[.int .i64 0, .slice none 0 0, .int .i64 0, .int .i64 2]) (by simp [results, Tryz.results30, go_sem]) rfl (retOpen0 H.out (Below.refl _ _))
 ·by_cases h1 : (b.length : Int) < a
  ·have H := Lib.hid (op_range (b := b) (Or.inr h1))
   go_enter Tryz.func30, Tryz.ntmps30
   go_wp2_with fail
   exact bodyPost_ret (v := .tuple #[.int .i64 0, .slice none 0 0, .int .i64 0, .int .i64 2]) (by simp [results, Tryz.results30, go_sem]) rfl (retOpen0 H.out (Below.refl _ _))
  ·obtain ⟨k, rfl⟩ : ∃ k : Nat, a = k := ⟨a.toNat, by omega⟩
   have hk : k ≤ b.length := by omega
   have p1 : decide (b.length < k) = false := by simpa using hk
   clear h0 h1 lo hi
   by_cases h2 : k = b.length
   ·have H := Lib.hid (op_end h2)
    have p2 : ((k : Int) == (b.length : Int)) = true := by rw [h2]; simp
    clear h2
    go_enter Tryz.func30, Tryz.ntmps30
    go_wp2_with fail
    exact bodyPost_ret (v := .tuple #[.int .i64 0, .slice none 0 0, .int .i64 0, .int .i64 4]) (by simp [results, Tryz.results30, go_sem]) rfl (retOpen0 H.out (Below.refl _ _))
   ·have p2 : ((k : Int) == (b.length : Int)) = false := beq_eq_false_iff_ne.2 (by omega)
    have hk1 : k < b.length := by omega
    clear h2
    obtain ⟨bb, off, rfl, hbb, hck⟩ := h.at8 hk1
    by_cases h3 : b[k].toNat = 76
    ·have p3 : ((b[k].toNat : Int) != 76) = false := by simp [h3]
     by_cases h4 : k + 1 = b.length
     ·have H := Lib.hid (op_one hk1 h3 h4)
      have p4 : ((k : Int) + 1 == (b.length : Int)) = true := by simp; omega
      clear h4 h3
      generalize b[k].toNat = x0 at *
      go_enter Tryz.func30, Tryz.ntmps30
      go_wp2_with fail
      exact bodyPost_ret (v := .tuple #[.int .i64 0, .slice none 0 0, .int .i64 0, .int .i64 4]) (by simp [results, Tryz.results30, go_sem]) rfl (retOpen0 H.out (Below.refl _ _))
     ·have p4 : ((k : Int) + 1 == (b.length : Int)) = false := beq_eq_false_iff_ne.2 (by omega)
      have hk2 : k + 1 < b.length := by omega
      clear h4
      obtain ⟨bb', off', eA, _, hck1⟩ := h.at8 hk2
      injection eA with eA
      injection eA with eA1 eA2
      subst eA1 eA2
      by_cases h5 : b[k + 1].toNat = 0
      ·have H := Lib.hid (op_zero hk2 h3 h5)
       have p5 : ((b[k + 1].toNat : Int) == 0) = true := by simp [h5]
       clear h3 h5
       generalize b[k].toNat = x0 at *
       generalize b[k + 1].toNat = x1 at *
       go_enter Tryz.func30, Tryz.ntmps30
       go_wp2_with fail
       exact bodyPost_ret (v := .tuple #[.int .i64 0, .slice none 0 0, .int .i64 0, .int .i64 3]) (by simp [results, Tryz.results30, go_sem]) rfl (retOpen0 H.out (Below.refl _ _))
      ·have hm := Marked.mk' hk2 h3 h5
       have p5 : ((b[k + 1].toNat : Int) == 0) = false := by simp [h5]
       have g1 := Lib.hid (show b.getD (k + 1) 0 = b[k + 1] by simp [List.getD, hk2])
       clear h3 h5
       have hI : Calls Tryz.prog 52 #[.slice (some ⟨bb, off, none⟩) b.length c, .int .i64 ((k : Int) + 2)] w (RetRd b ((k + 2 : Nat) : Int) w) := by
        have e : ((k + 2 : Nat) : Int) = (k : Int) + 2 := by omega
        rw [← e]
        exact rint_any _ _ _ _ h (by omega) _ (by omega) (by omega)
       by_cases h6 : rdE b ((k + 2 : Nat) : Int) = 0
       ·obtain ⟨b1, b2, b3, b4⟩ := read_bound h6
        unfold RetRd at hI
        rw [h6] at hI
        by_cases h7 : rdN b ((k + 2 : Nat) : Int) < 0
        ·have H := Lib.hid (op_size hm h6 (Or.inl h7))
         clear h6
         have p6 : decide (rdN b ((k + 2 : Nat) : Int) < 0) = true := by simpa using h7
         generalize rdN b ((k + 2 : Nat) : Int) = N at *
         generalize rdT b ((k + 2 : Nat) : Int) = T at *
         generalize b[k].toNat = x0 at *
         generalize b[k + 1].toNat = x1 at *
         go_enter Tryz.func30, Tryz.ntmps30
         go_wp2_with fail
         refine hI.mono ?_
         rintro e w' ⟨rfl, rfl⟩
         clear hI
         go_wp2_with fail
         exact bodyPost_ret (v := .tuple #[.int .i64 0, .slice none 0 0, .int .i64 0, .int .i64 3]) (by simp [results, Tryz.results30, go_sem]) rfl (retOpen0 H.out (Below.refl _ _))
        ·have p6 : decide (rdN b ((k + 2 : Nat) : Int) < 0) = false := by simpa using h7
         by_cases h8 : 1048576 < rdN b ((k + 2 : Nat) : Int)
         ·have H := Lib.hid (op_size hm h6 (Or.inr h8))
          clear h6
          have p7 : decide (1048576 < rdN b ((k + 2 : Nat) : Int)) = true := by simpa using h8
          generalize rdN b ((k + 2 : Nat) : Int) = N at *
          generalize rdT b ((k + 2 : Nat) : Int) = T at *
          generalize b[k].toNat = x0 at *
          generalize b[k + 1].toNat = x1 at *
          go_enter Tryz.func30, Tryz.ntmps30
          go_wp2_with fail
          refine hI.mono ?_
          rintro e w' ⟨rfl, rfl⟩
          clear hI
          go_wp2_with fail
          exact bodyPost_ret (v := .tuple #[.int .i64 0, .slice none 0 0, .int .i64 0, .int .i64 3]) (by simp [results, Tryz.results30, go_sem]) rfl (retOpen0 H.out (Below.refl _ _))
         ·have p7 : decide (1048576 < rdN b ((k + 2 : Nat) : Int)) = false := by simpa using h8
          by_cases h9 : (b.length : Int) - rdT b ((k + 2 : Nat) : Int) < rdN b ((k + 2 : Nat) : Int) + 4
          ·have H := Lib.hid (op_short hm h6 (by omega) h9)
           clear h6
           generalize rdN b ((k + 2 : Nat) : Int) = N at *
           generalize rdT b ((k + 2 : Nat) : Int) = T at *
           generalize b[k].toNat = x0 at *
           generalize b[k + 1].toNat = x1 at *
           go_enter Tryz.func30, Tryz.ntmps30
           go_wp2_with fail
           refine hI.mono ?_
           rintro e w' ⟨rfl, rfl⟩
           clear hI
           go_wp2_with fail
           exact bodyPost_ret (v := .tuple #[.int .i64 0, .slice none 0 0, .int .i64 0, .int .i64 4]) (by simp [results, Tryz.results30, go_sem]) rfl (retOpen0 H.out (Below.refl _ _))
          ·obtain ⟨T, N, hf⟩ := Framed.of hm h6 (by omega) h9
           rw [hf.n, hf.t] at hI
           have f1 := hf.le
           have f2 := hf.lt
           have f3 := hf.fit
           have hlN : ((b.drop T).take N).length = N := by simp; omega
           have hlM : ((b.drop k).take (T + N - k)).length = T + N - k := by simp; omega
           obtain ⟨y0, y1, y2, y3, hy⟩ := four ((b.drop (T + N)).take 4) (by simp; omega)
           have hOK := Lib.hid (fun h6 => op_ok hf h6)
           have hNO := Lib.hid (fun h6 => op_sum hf h6)
           rw [g1.out] at hOK
           clear p6 p7 h7 h8 h9 h6 b1 b2 b3 b4 hf hm
           clear g1
           have sA := slice_at (some ⟨bb, off, none⟩) c b.length hbc ((T : Int) + N) ((T : Int) + N + 4) (T + N) 4 (by omega) (by omega) (by omega)
           have sB := slice_at (some ⟨bb, off, none⟩) c b.length hbc (k : Int) ((T : Int) + N) k (T + N - k) rfl (by omega) (by omega)
           have hoA : offBy (some ⟨bb, off, none⟩) c (T + N) = some ⟨bb, off + (T + N), none⟩ := by unfold offBy; rw [if_neg (by omega)]; show some ((⟨bb, off, none⟩ : Addr).add _) = _; rw [add_plain]
           have hrB := h.off hbc k (T + N - k) (by omega)
           rw [hoA] at sA
           have hlY : ((b.drop (T + N)).take 4).length = 4 := by simp; omega
           have hrY := h.off hbc (T + N) 4 (by omega)
           rw [hoA] at hrY
           have cvY : ∀ w', Up w w' → (convert 22 9 (.slice (some ⟨bb, off + (T + N), none⟩) 4 (c - (T + N)))).run Tryz.prog w' = .ok (.string ⟨((b.drop (T + N)).take 4).toArray⟩) w' := fun w' hu => by
            have := str_of w' (some ⟨bb, off + (T + N), none⟩) (c - (T + N)) ((b.drop (T + N)).take 4) (hu.rd hrY)
            rwa [hlY] at this
           rw [hy] at hOK hNO cvY
           clear hy hlY hrY hoA
           have sC := slice_at (some ⟨bb, off, none⟩) c b.length hbc (T : Int) ((T : Int) + N) T N rfl rfl (by omega)
           have hrC := h.off hbc T N (by omega)
           have kC : ∀ w', Up w w' → Calls Tryz.prog 54 #[.slice (offBy (some ⟨bb, off, none⟩) c k) (T + N - k) (c - k)] w' (fun e w'' => e = .returned (.int .i64 (crc ((b.drop k).take (T + N - k)))) ∧ w' = w'') := fun w' hu => by
            have := rcrc_any (offBy (some ⟨bb, off, none⟩) c k) (c - k) ((b.drop k).take (T + N - k)) w' (hu.rd hrB) (by omega)
            rwa [hlM] at this
           have hcr := crc_lt ((b.drop k).take (T + N - k))
           generalize crc ((b.drop k).take (T + N - k)) = cr at *
           have kT : ∀ w', Calls Tryz.prog 53 #[.int .i64 cr] w' (RetStr4 (tail4 cr) w') := fun w' => (rtail_any w' cr hcr).mono fun _ _ h => retStr4 h
           generalize offBy (some ⟨bb, off, none⟩) c k = AB at *
           generalize offBy (some ⟨bb, off, none⟩) c T = AC at *
           generalize (b.drop T).take N = CC at *
           clear hlM hrB
           have hx1 := b[k + 1].toNat_lt
           generalize b[k].toNat = x0 at *
           generalize b[k + 1].toNat = x1 at *
           have ewx : IntKind.i64.wrap (x1 : Int) = (x1 : Int) := IntWalk.i64_in _ (by omega)
           generalize tail4 cr = TT at *
           generalize [y0, y1, y2, y3] = YY at *
           have ewr : IntKind.i64.wrap ((T : Int) + N + 4) = (T : Int) + N + 4 := IntWalk.i64_in _ (by omega)
           go_enter Tryz.func30, Tryz.ntmps30
           go_wp2_with fail
           refine hI.mono ?_
           rintro e w' ⟨rfl, rfl⟩
           clear hI
           go_wp2_with fail
           by_cases hYT : YY = TT
           ·have H := Lib.hid (hOK.out hYT)
            subst hYT
            refine wp_region_noPanic ?_
            refine wp_region_held_drew (S := fun w' => Up w w') (by kernel_rfl) (Up.drew w) (fun hHeld => ?_)
            refine tk 0 67 (v := ?_) ?_ ?_
            rotate_left
            ·intro w' hSw; clear hSw; go_simp; try (with_reducible rfl)
            try simp only [tkA, tkB, tkC]
            refine tk 1 68 (v := ?_) ?_ ?_
            rotate_left
            ·intro w' hSw; clear hSw; go_simp; try (with_reducible rfl)
            try simp only [tkA, tkB, tkC]
            refine tk 2 69 (v := ?_) ?_ ?_
            rotate_left
            ·intro w' hSw; clear hSw; go_simp; try (with_reducible rfl)
            try simp only [tkA, tkB, tkC]
            refine tk 3 70 (v := ?_) ?_ ?_
            rotate_left
            ·intro w' hSw; clear hSw; go_simp; try (with_reducible rfl)
            try simp only [tkA, tkB, tkC]
            refine tk 4 71 (v := ?_) ?_ ?_
            rotate_left
            ·intro w' hS0; go_simp; try (with_reducible rfl)
            try simp only [tkA, tkB, tkC]
            refine tk 5 72 (v := ?_) ?_ ?_
            rotate_left
            ·intro w' hS0; go_simp; try (with_reducible rfl)
            try simp only [tkA, tkB, tkC]
            refine tk 6 73 (v := ?_) ?_ ?_
            rotate_left
            ·intro w' hSw; clear hSw; go_simp; try (with_reducible rfl)
            try simp only [tkA, tkB, tkC]
            refine tk 7 74 (v := ?_) ?_ ?_
            rotate_left
            ·intro w' hSw; clear hSw; go_simp; try (with_reducible rfl)
            try simp only [tkA, tkB, tkC]
            refine tk 8 75 (v := ?_) ?_ ?_
            rotate_left
            ·intro w' hSw; clear hSw; go_simp; try (with_reducible rfl)
            try simp only [tkA, tkB, tkC]
            refine tk 9 76 (v := ?_) ?_ ?_
            rotate_left
            ·intro w' hS0; go_simp; try (with_reducible rfl)
            try simp only [tkA, tkB, tkC]
            refine wpAnyH_ready (rs := [10]) (by kernel_rfl) (by simp) ?_
            refine AllReadyH.cons rfl (fun K hK => ?_) AllReadyH.nil
            go_simp
            refine (kC _ (Up.drew w)).mono ?_
            rintro e w' ⟨rfl, rfl⟩
            have u0 : Up w w.drew := Up.drew w
            refine hK.out _ _ u0 (fun hHeld => ?_)
            clear hK K hHeld
            refine wpAnyH_more (S' := fun w' => Up w.drew w') (fun w' h => Up.trans u0 h) _ _ _ _ ?_
            have hHeld := Up.refl w.drew
            refine wpAnyH_ready (rs := [11]) (by kernel_rfl) (by simp) ?_
            refine AllReadyH.cons rfl (fun K hK => ?_) AllReadyH.nil
            go_simp
            refine (kT _).mono ?_
            rintro e W1 ⟨A1, c1, rfl, x1', cv1⟩
            have u1 : Up w.drew W1 := x1'
            refine hK.out _ _ u1 (fun hHeld => ?_)
            clear hK K hHeld
            refine wpAnyH_more (S' := fun w' => Up W1 w') (fun w' h => Up.trans u1 h) _ _ _ _ ?_
            have hHeld := Up.refl W1
            refine tk 12 79 (v := ?_) ?_ ?_
            rotate_left
            ·intro w' hS2; have hS1 := Up.trans u1 hS2; have hS0 := Up.trans u0 hS1; go_simp; try (with_reducible rfl)
            try simp only [tkA, tkB, tkC]
            refine tk 13 80 (v := ?_) ?_ ?_
            rotate_left
            ·intro w' hSw; clear hSw; go_simp; try (with_reducible rfl)
            try simp only [tkA, tkB, tkC]
            refine wpAnyH_done (by kernel_rfl) ?_ _
            refine NoPanic.normal ?_
            clear hHeld
            clear kC kT cvY cv1 sA sB hcr
            have HlN := Lib.hid hlN
            clear hlN
            have v1 : Up w W1 := u0.trans u1
            have ldx : ∀ w', Up W1 w' → w'.cell? ⟨bb, off + (k + 1), none⟩ = some (.int .u8 (x1 : Int)) := fun w' hu => (v1.trans hu).cell hck1
            have ew2 : IntKind.i64.wrap ((k : Int) + 1) = (k : Int) + 1 := IntWalk.i64_in _ (by omega)
            have ek1 : ((k : Int) + 1).toNat = k + 1 := by omega
            have ek2 : (0 : Int) ≤ (k : Int) + 1 := by omega
            have ek3 : (k : Int) + 1 < (b.length : Int) := by omega
            go_wp2_with fail
            refine wp_region_noPanic ?_
            refine wp_region_held_drew (S := fun w' => Up W1 w') (by kernel_rfl) (Up.drew W1) (fun hHeld => ?_)
            refine tk 0 81 (v := ?_) ?_ ?_
            rotate_left
            ·intro w' hSw; clear hSw; go_simp; try (with_reducible rfl)
            try simp only [tkA, tkB, tkC]
            refine tk 1 82 (v := ?_) ?_ ?_
            rotate_left
            ·intro w' hSw; clear hSw; go_simp; try (with_reducible rfl)
            try simp only [tkA, tkB, tkC]
            refine tk 2 83 (v := ?_) ?_ ?_
            rotate_left
            ·intro w' hSw; clear hSw; go_simp; try (with_reducible rfl)
            try simp only [tkA, tkB, tkC]
            refine tk 3 84 (v := ?_) ?_ ?_
            rotate_left
            ·intro w' hSw; clear hSw; go_simp; try (with_reducible rfl)
            try simp only [tkA, tkB, tkC]
            refine tk 4 85 (v := ?_) ?_ ?_
            rotate_left
            ·intro w' hS0; go_simp; try (with_reducible rfl)
            try simp only [tkA, tkB, tkC]
            refine tk 5 86 (v := ?_) ?_ ?_
            rotate_left
            ·intro w' hS0; go_simp; try (with_reducible rfl)
            try simp only [tkA, tkB, tkC]
            refine tk 7 88 (v := ?_) ?_ ?_
            rotate_left
            ·intro w' hSw; clear hSw; go_simp; try (with_reducible rfl)
            try simp only [tkA, tkB, tkC]
            refine tk 8 89 (v := ?_) ?_ ?_
            rotate_left
            ·intro w' hSw; clear hSw; go_simp; try (with_reducible rfl)
            try simp only [tkA, tkB, tkC]
            refine tk 9 90 (v := ?_) ?_ ?_
            rotate_left
            ·intro w' hSw; clear hSw; go_simp; try (with_reducible rfl)
            try simp only [tkA, tkB, tkC]
            refine tk 10 91 (v := ?_) ?_ ?_
            rotate_left
            ·intro w' hS0; go_simp; try (with_reducible rfl)
            try simp only [tkA, tkB, tkC]
            refine tk 12 93 (v := ?_) ?_ ?_
            rotate_left
            ·intro w' hSw; clear hSw; go_simp; try (with_reducible rfl)
            try simp only [tkA, tkB, tkC]
            refine tk 13 94 (v := ?_) ?_ ?_
            rotate_left
            ·intro w' hSw; clear hSw; go_simp; try (with_reducible rfl)
            try simp only [tkA, tkB, tkC]
            refine wpAnyH_ready (rs := [6]) (by kernel_rfl) (by simp) ?_
            refine AllReadyH.cons rfl (fun K hK => ?_) AllReadyH.nil
            go_simp
            have u2 : Up W1 (W1.alloc (.cells #[] 5)).drew := ⟨((Below.refl _ _).alloc (Nat.le_refl _) _).drew⟩
            have z2 : W1.heap.size < (W1.alloc (.cells #[] 5)).drew.heap.size := by simp
            generalize (W1.alloc (.cells #[] 5)).drew = W2 at *
            refine hK.out _ _ u2 (fun hHeld => ?_)
            clear hK K
            refine wpAnyH_ready (rs := [11]) (by kernel_rfl) (by simp) ?_
            refine AllReadyH.cons rfl (fun K hK => ?_) AllReadyH.nil
            rw [if_pos (by rfl)]
            refine wp_append_Own _ (.tmp 87) (.tmp 91) 22 rfl W1.heap.size 5 i0 _ 1 1 Tryz.underlying22 hi0 hz0 hz1 hz2 rfl (by omega) (.slice (some ⟨W1.heap.size, 0, none⟩) 0 0) 0 [] rfl (.inr ⟨rfl, rfl, _, rfl, Nat.le_refl _, z2⟩) AC N (c - T) (CC.map U8) rfl (by simp; exact HlN.out) ((v1.trans u2).rd hrC) (u8_one _) (by simp only [maxLen]; omega) (by omega) (Nat.le_of_lt z2) ?_
            intro v9 W3 hown9 hg9 hb9 hat9
            obtain ⟨A9, c9, hv9, hc9, hr9⟩ := hown9.rd
            rw [hv9] at hown9 ⊢
            have hWh := Lib.hid (Where.own (A0 := some ⟨bb, off, none⟩) hown9 v1.b.size)
            have u3 : Up W1 W3 := ⟨u2.b.trans hb9⟩
            clear hv9 hown9 hg9 hb9 hat9
            rw [Nat.zero_add] at *
            refine hK.out _ _ u3 (fun hHeld => ?_)
            clear hK K
            change wpAnyH _ _ _ _ _ _ _ (Act.put _ (some 92) _) _
            try simp only [Act.put, tkA, tkB, tkC]
            refine tk 14 4 (v := ?_) ?_ ?_
            rotate_left
            ·intro w' hSw; clear hSw; go_simp; try (with_reducible rfl)
            try simp only [tkA, tkB, tkC]
            refine tk 15 5 (v := ?_) ?_ ?_
            rotate_left
            ·intro w' hSw; clear hSw; go_simp; try (with_reducible rfl)
            try simp only [tkA, tkB, tkC]
            refine tk 16 6 (v := ?_) ?_ ?_
            rotate_left
            ·intro w' hSw; clear hSw; go_simp; try (with_reducible rfl)
            try simp only [tkA, tkB, tkC]
            refine tk 17 7 (v := ?_) ?_ ?_
            rotate_left
            ·intro w' hSw; clear hSw; go_simp; try (with_reducible rfl)
            try simp only [tkA, tkB, tkC]
            refine wpAnyH_done (by kernel_rfl) ?_ _
            refine NoPanic.normal ?_
            clear hHeld
            go_wp2
            have hR := retOpen (A := A9) (c := c9) (w := w) (w' := W3) H.out hr9 (by rw [HlN.out]; exact hc9) (v1.trans u3).b hWh.out
            rw [HlN.out] at hR
            exact bodyPost_ret (v := .tuple #[.int .i64 x1, .slice A9 N c9, .int .i64 ((T : Int) + N + 4), .int .i64 0]) (by simp [results, Tryz.results30, go_sem]) rfl hR
           ·have H := Lib.hid (hNO.out hYT)
            have hbq : (YY == TT) = false := by simpa using hYT
            clear hYT
            refine wp_region_noPanic ?_
            refine wp_region_held_drew (S := fun w' => Up w w') (by kernel_rfl) (Up.drew w) (fun hHeld => ?_)
            refine tk 0 67 (v := ?_) ?_ ?_
            rotate_left
            ·intro w' hSw; clear hSw; go_simp; try (with_reducible rfl)
            try simp only [tkA, tkB, tkC]
            refine tk 1 68 (v := ?_) ?_ ?_
            rotate_left
            ·intro w' hSw; clear hSw; go_simp; try (with_reducible rfl)
            try simp only [tkA, tkB, tkC]
            refine tk 2 69 (v := ?_) ?_ ?_
            rotate_left
            ·intro w' hSw; clear hSw; go_simp; try (with_reducible rfl)
            try simp only [tkA, tkB, tkC]
            refine tk 3 70 (v := ?_) ?_ ?_
            rotate_left
            ·intro w' hSw; clear hSw; go_simp; try (with_reducible rfl)
            try simp only [tkA, tkB, tkC]
            refine tk 4 71 (v := ?_) ?_ ?_
            rotate_left
            ·intro w' hS0; go_simp; try (with_reducible rfl)
            try simp only [tkA, tkB, tkC]
            refine tk 5 72 (v := ?_) ?_ ?_
            rotate_left
            ·intro w' hS0; go_simp; try (with_reducible rfl)
            try simp only [tkA, tkB, tkC]
            refine tk 6 73 (v := ?_) ?_ ?_
            rotate_left
            ·intro w' hSw; clear hSw; go_simp; try (with_reducible rfl)
            try simp only [tkA, tkB, tkC]
            refine tk 7 74 (v := ?_) ?_ ?_
            rotate_left
            ·intro w' hSw; clear hSw; go_simp; try (with_reducible rfl)
            try simp only [tkA, tkB, tkC]
            refine tk 8 75 (v := ?_) ?_ ?_
            rotate_left
            ·intro w' hSw; clear hSw; go_simp; try (with_reducible rfl)
            try simp only [tkA, tkB, tkC]
            refine tk 9 76 (v := ?_) ?_ ?_
            rotate_left
            ·intro w' hS0; go_simp; try (with_reducible rfl)
            try simp only [tkA, tkB, tkC]
            refine wpAnyH_ready (rs := [10]) (by kernel_rfl) (by simp) ?_
            refine AllReadyH.cons rfl (fun K hK => ?_) AllReadyH.nil
            go_simp
            refine (kC _ (Up.drew w)).mono ?_
            rintro e w' ⟨rfl, rfl⟩
            have u0 : Up w w.drew := Up.drew w
            refine hK.out _ _ u0 (fun hHeld => ?_)
            clear hK K hHeld
            refine wpAnyH_more (S' := fun w' => Up w.drew w') (fun w' h => Up.trans u0 h) _ _ _ _ ?_
            have hHeld := Up.refl w.drew
            refine wpAnyH_ready (rs := [11]) (by kernel_rfl) (by simp) ?_
            refine AllReadyH.cons rfl (fun K hK => ?_) AllReadyH.nil
            go_simp
            refine (kT _).mono ?_
            rintro e W1 ⟨A1, c1, rfl, x1', cv1⟩
            have u1 : Up w.drew W1 := x1'
            refine hK.out _ _ u1 (fun hHeld => ?_)
            clear hK K hHeld
            refine wpAnyH_more (S' := fun w' => Up W1 w') (fun w' h => Up.trans u1 h) _ _ _ _ ?_
            have hHeld := Up.refl W1
            refine tk 12 79 (v := ?_) ?_ ?_
            rotate_left
            ·intro w' hS2; have hS1 := Up.trans u1 hS2; have hS0 := Up.trans u0 hS1; go_simp; try (with_reducible rfl)
            try simp only [tkA, tkB, tkC]
            refine tk 13 80 (v := ?_) ?_ ?_
            rotate_left
            ·intro w' hSw; clear hSw; go_simp; try (with_reducible rfl)
            try simp only [tkA, tkB, tkC]
            refine wpAnyH_done (by kernel_rfl) ?_ _
            refine NoPanic.normal ?_
            clear hHeld
            clear kC kT cvY cv1 hbq
            go_wp2_with fail
            exact bodyPost_ret (v := .tuple #[.int .i64 0, .slice none 0 0, .int .i64 0, .int .i64 6]) (by simp [results, Tryz.results30, go_sem]) rfl (retOpen0 H.out (u0.trans u1).b)
       ·have H := Lib.hid (op_int hm h6)
        have hI' : Calls Tryz.prog 52 #[.slice (some ⟨bb, off, none⟩) b.length c, .int .i64 ((k : Int) + 2)] w (fun e w' => e = .returned (.tuple #[.int .i64 0, .int .i64 0, .int .i64 (rdE b ((k + 2 : Nat) : Int))]) ∧ w = w') := by
         have e1 : rdN b ((k + 2 : Nat) : Int) = 0 := by unfold rdN; rw [if_neg h6]
         have e2 : rdT b ((k + 2 : Nat) : Int) = 0 := by unfold rdT; rw [if_neg h6]
         unfold RetRd at hI; rw [e1, e2] at hI; exact hI
        have p6 : (rdE b ((k + 2 : Nat) : Int) != 0) = true := by simp; exact h6
        clear h6 hI
        generalize rdE b ((k + 2 : Nat) : Int) = E at *
        generalize b[k].toNat = x0 at *
        generalize b[k + 1].toNat = x1 at *
        go_enter Tryz.func30, Tryz.ntmps30
        go_wp2_with fail
        refine hI'.mono ?_
        rintro e w' ⟨rfl, rfl⟩
        clear hI'
        go_wp2_with fail
        exact bodyPost_ret (v := .tuple #[.int .i64 0, .slice none 0 0, .int .i64 0, .int .i64 E]) (by simp [results, Tryz.results30, go_sem]) rfl (retOpen0 H.out (Below.refl _ _))
    ·have H := Lib.hid (op_mark hk1 h3)
     have p3 : ((b[k].toNat : Int) != 76) = true := by simp; omega
     clear h3
     generalize b[k].toNat = x0 at *
     go_enter Tryz.func30, Tryz.ntmps30
     go_wp2_with fail
     exact bodyPost_ret (v := .tuple #[.int .i64 0, .slice none 0 0, .int .i64 0, .int .i64 3]) (by simp [results, Tryz.results30, go_sem]) rfl (retOpen0 H.out (Below.refl _ _))
theorem open_any (w : World) (A : Option Addr) (c : Nat) (b : List UInt8) (hbc : b.length ≤ c) (h : Rd w A (b.map U8)) (hl : b.length ≤ 1000000000) (a : Int) (lo : -9223372036854775808 ≤ a) (hi : a ≤ 9223372036854775807) :
 Calls Tryz.prog 38 #[.slice A b.length c, .int .i64 a] w (RetOpen b a w) := (open_anyW w A c b hbc h hl a lo hi).mono fun _ _ h => h.weak
theorem ropen_any (w : World) (A : Option Addr) (c : Nat) (b : List UInt8) (hbc : b.length ≤ c) (h : Rd w A (b.map U8)) (hl : b.length ≤ 1000000000) (a : Int) (lo : -9223372036854775808 ≤ a) (hi : a ≤ 9223372036854775807) :
 Calls Tryz.prog 30 #[.slice A b.length c, .int .i64 a] w (RetOpen b a w) := (ropen_anyW w A c b hbc h hl a lo hi).mono fun _ _ h => h.weak
end Go.Proofs.YtcomeidcmcegfaaGreatDoor
