/-
  The walk of the reference's PutInt. Conditions: lengths below the model's bound.
  The walks of the reference's PutText and PutInts. Conditions: lengths below the model's bound.
  The walks of puts and Bytes of the reference's layer 49. Conditions: the operation reads as its type says.
  The walks of Seal of layer 6 and of the reference. Conditions: the content reads as a list.
-/
import Derived.Test.YtcomeidcmcegfaaGreatDoorZD
import Derived.Test.YtcomeidcmcegfaaGreatDoorZF
import Derived.Test.YtcomeidcmcegfaaGreatDoorZJ
import Derived.Deep.DeepCutAuto
import Derived.Test.YtcomeidcmcegfaaGreatDoorFrameCrc
namespace Go.Proofs.YtcomeidcmcegfaaGreatDoor
open Go.RowKit
set_option linter.unusedVariables false
end Go.Proofs.YtcomeidcmcegfaaGreatDoor
namespace Go.Proofs.YtcomeidcmcegfaaGreatDoor
open Go.RowKit
set_option linter.unusedVariables false
end Go.Proofs.YtcomeidcmcegfaaGreatDoor
namespace Go.Proofs.YtcomeidcmcegfaaGreatDoor
open Go.RowKit
set_option linter.unusedVariables false
end Go.Proofs.YtcomeidcmcegfaaGreatDoor
namespace Go.Proofs.YtcomeidcmcegfaaGreatDoor
open Go.RowKit
set_option linter.unusedVariables false
def RetSeal (L : List UInt8) (x : Int) (w : World) (en : Ending) (w' : World) : Prop :=
 ∃ A c, en = .returned (.tuple #[.slice A L.length c, .int .i64 x]) ∧ Own w' w.heap.size 5 1 (.slice A L.length c) L.length (L.map U8) ∧ Below w.heap.size w w'
theorem sl_arg {kind : Int} {b : List UInt8} (h : kind < 1 ∨ 255 < kind) : slE kind b.length = 1 ∧ slB kind b = [] := by
 have e : slE kind b.length = 1 := by unfold slE; rw [if_pos h]
 exact ⟨e, by unfold slB; rw [if_neg (by omega)]⟩
theorem sl_long {kind : Int} {b : List UInt8} (h : ¬ (kind < 1 ∨ 255 < kind)) (h2 : 1048576 < b.length) : slE kind b.length = 5 ∧ slB kind b = [] := by
 have e : slE kind b.length = 5 := by unfold slE; rw [if_neg h, if_pos h2]
 exact ⟨e, by unfold slB; rw [if_neg (by omega)]⟩
theorem sl_ok {kind : Int} {b : List UInt8} (h : ¬ (kind < 1 ∨ 255 < kind)) (h2 : ¬ 1048576 < b.length) : slE kind b.length = 0 ∧ slB kind b = fseal kind b := by
 have e : slE kind b.length = 0 := by unfold slE; rw [if_neg h, if_neg h2]
 exact ⟨e, by unfold slB; rw [if_pos e]⟩
theorem retSeal {kind : Int} {b L : List UInt8} {x : Int} {w w' : World} {A : Option Addr} {c : Nat} (h : slE kind b.length = x ∧ slB kind b = L) (ho : Own w' w.heap.size 5 1 (.slice A L.length c) L.length (L.map U8)) (hb : Below w.heap.size w w') :
 RetSeal (slB kind b) (slE kind b.length) w (.returned (.tuple #[.slice A L.length c, .int .i64 x])) w' := by
 obtain ⟨rfl, rfl⟩ := h; exact ⟨A, c, rfl, ho, hb⟩
set_option maxRecDepth 20000 in
set_option maxHeartbeats 1000000 in
theorem seal_any (w : World) (kind : Int) (lo : -9223372036854775808 ≤ kind) (hi : kind ≤ 9223372036854775807) (A : Option Addr) (c : Nat) (b : List UInt8) (h : Rd w A (b.map U8)) (hl : b.length ≤ 9223372036854775807) :
 Calls Tryz.prog 22 #[.int .i64 kind, .slice A b.length c] w (RetSeal (slB kind b) (slE kind b.length) w) := by
 obtain ⟨i0, hi0, hz0, hz1, hz2⟩ := info_parts info_u8
 by_cases h1 : kind < 1
 ·have H := Lib.hid (sl_arg (b := b) (Or.inl h1))
  go_enter Tryz.func22, Tryz.ntmps22
  go_wp2
  exact bodyPost_ret (v := .tuple #[.slice none 0 0, .int .i64 1]) (by simp [results, Tryz.results22, go_sem]) rfl (retSeal H.out (Own.nil _ _ _ _) (Below.refl _ _))
 ·by_cases h2 : 255 < kind
  ·have H := Lib.hid (sl_arg (b := b) (Or.inr h2))
   go_enter Tryz.func22, Tryz.ntmps22
   go_wp2
   exact bodyPost_ret (v := .tuple #[.slice none 0 0, .int .i64 1]) (by simp [results, Tryz.results22, go_sem]) rfl (retSeal H.out (Own.nil _ _ _ _) (Below.refl _ _))
  ·by_cases h3 : 1048576 < b.length
   ·have H := Lib.hid (sl_long (b := b) (kind := kind) (by omega) h3)
    go_enter Tryz.func22, Tryz.ntmps22
    go_wp2
    exact bodyPost_ret (v := .tuple #[.slice none 0 0, .int .i64 5]) (by simp [results, Tryz.results22, go_sem]) rfl (retSeal H.out (Own.nil _ _ _ _) (Below.refl _ _))
   ·have H := Lib.hid (sl_ok (b := b) (kind := kind) (by omega) h3)
    have en1 := enc_length (b.length : Int)
    have hkb : ((UInt8.ofNat kind.toNat).toNat : Int) = kind := kind_byte (by omega) (by omega)
    have hrd : ∀ wx : World, Rd (wx.alloc (.cells #[.int .u8 76, .int .u8 kind] 5)) (some ⟨wx.heap.size, 0, none⟩) (([76, UInt8.ofNat kind.toNat] : List UInt8).map U8) := fun wx => by
     have e : U8 (UInt8.ofNat kind.toNat) = .int .u8 kind := by unfold U8; rw [hkb]
     have := Rd.new wx [U8 76, U8 (UInt8.ofNat kind.toNat)] 5 (0, 0)
     rw [e] at this
     rw [List.map_cons, List.map_cons, List.map_nil, e]
     exact this
    have hK : ∀ w' : World, Calls Tryz.prog 41 #[.slice (some ⟨w'.heap.size, 0, none⟩) 2 2, .int .i64 b.length] (w'.alloc (.cells #[.int .u8 76, .int .u8 kind] 5)) (RetNew U8 5 (fhead kind b.length) (w'.alloc (.cells #[.int .u8 76, .int .u8 kind] 5))) := fun w' =>
     putInt_any _ (some ⟨w'.heap.size, 0, none⟩) 2 [76, UInt8.ofNat kind.toNat] (hrd w') (by simp) (b.length : Int) (by omega) (by omega)
    have hHl : (fhead kind b.length).length ≤ 20 := by rw [fhead_length]; omega
    have HM : Hid (fmsg kind b = fhead kind b.length ++ b) := rfl
    have HS : Hid (fseal kind b = fmsg kind b ++ tail4 (crc (fmsg kind b))) := rfl
    have hMl : (fmsg kind b).length ≤ 1048600 := by rw [fmsg_length]; omega
    have hcl := crc_lt (fmsg kind b)
    generalize fhead kind b.length = HH at *
    generalize fseal kind b = SS at *
    generalize fmsg kind b = MM at *
    clear hrd hkb
    go_enter Tryz.func22, Tryz.ntmps22
    go_wp2_with fail
    refine (hK _).mono ?_
    rintro e w1 ⟨A1, c1, rfl, hown1, hb1⟩
    have hb1 : Below w.heap.size w w1 := ((Below.refl w.heap.size w).alloc (Nat.le_refl _) (.cells #[.int .u8 76, .int .u8 kind] 5)).trans (hb1.mono (by simp))
    have hown1 := hown1.lower (b' := w.heap.size) (by simp)
    clear hK
    go_wp2_with (first
     | (at_builtin
        refine wpList_append_map _ U8 U8_one rfl (.tmp 22) (.tmp 23) _ rfl w.heap.size 5 i0 _ 1 Tryz.underlying22 hi0 hz0 hz1 hz2 rfl A1 c1 HH rfl hown1 A c b rfl (h.below hb1) (by simp only [maxLen]; omega) (by omega) hb1.size ?_
        intro A2 c2 l2 w2 e2 hown2 hrq hgq hb2 hatq
        clear hrq hgq hatq
        obtain rfl : MM = l2 := by rw [HM.out]; exact e2.out.symm
        have hb2 := hb1.trans hb2
        clear e2)
     | fail)
    refine (crc4_any _ _ _ _ hown2.rd' (by omega)).mono ?_
    rintro e w3 ⟨rfl, hb3⟩
    have hown3 := (hown2.below (B := 0) hb3)
    have hb3 := hb2.trans (hb3.mono hb2.size)
    clear hown1 hown2 hb1 hb2
    have HT : Hid (SS = MM ++ tail4 (crc MM)) := HS.out
    have hrT : Rd (w3.alloc (.cells #[tb (crc MM) 0, tb (crc MM) 1, tb (crc MM) 2, tb (crc MM) 3] 74)) (some ⟨w3.heap.size, 0, none⟩) ((tail4 (crc MM)).map U8) := by
     rw [tb_tail]; exact Rd.new w3 _ _ _
    generalize crc MM = n at *
    unfold tb at *
    generalize ((n / 256 ^ 0 % 256 : Nat) : Int) = t0 at *
    generalize ((n / 256 ^ 1 % 256 : Nat) : Int) = t1 at *
    generalize ((n / 256 ^ 2 % 256 : Nat) : Int) = t2 at *
    generalize ((n / 256 ^ 3 % 256 : Nat) : Int) = t3 at *
    go_wp2_with (first
     | (at_builtin
        refine wpList_append_map _ U8 U8_one rfl (.tmp 27) (.tmp 28) _ rfl w.heap.size 5 i0 _ 1 Tryz.underlying22 hi0 hz0 hz1 hz2 rfl A2 c2 MM rfl (hown3.alloc _) (some ⟨w3.heap.size, 0, none⟩) 4 (tail4 n) rfl hrT (by simp only [maxLen, tail4_length]; omega) (by simp only [tail4_length]; omega) (by simp; have := hb3.size; omega) ?_
        intro A9 c9 l9 w9 e9 hown9 hrq hgq hb9 hatq
        clear hrq hgq hatq
        obtain rfl : SS = l9 := by rw [HT.out]; exact e9.out.symm)
     | fail)
    exact bodyPost_ret (v := .tuple #[.slice A9 SS.length c9, .int .i64 0]) (by simp [results, Tryz.results22, go_sem]) rfl (retSeal H.out hown9 ((hb3.alloc hb3.size _).trans hb9))
end Go.Proofs.YtcomeidcmcegfaaGreatDoor
