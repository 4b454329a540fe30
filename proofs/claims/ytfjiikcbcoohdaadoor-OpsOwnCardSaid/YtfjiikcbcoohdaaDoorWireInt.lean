/-
  The walk of wire.Int. Conditions: the bytes read as a list.
-/
import Derived.Test.YtfjiikcbcoohdaaDoorWireBits
import Derived.Test.YtfjiikcbcoohdaaDoorAppend
import Derived.Test.YtfjiikcbcoohdaaDoorSeat8
namespace Go.Proofs.YtfjiikcbcoohdaaDoor
open Go.RowKit
set_option linter.unusedVariables false

def RetRd (b : List UInt8) (a : Int) (w : World) (e : Ending) (w' : World) : Prop := e = .returned (.tuple #[.int .i64 (rdN b a), .int .i64 (rdT b a), .int .i64 (rdE b a)]) ∧ w = w'
theorem retRd {b : List UInt8} {a x y z : Int} {w : World} (h : rdE b a = z ∧ rdN b a = x ∧ rdT b a = y) : RetRd b a w (.returned (.tuple #[.int .i64 x, .int .i64 y, .int .i64 z])) w := by
  obtain ⟨rfl, rfl, rfl⟩ := h; exact ⟨rfl, rfl⟩

set_option maxRecDepth 20000 in
set_option maxHeartbeats 1000000 in
theorem int_any (w : World) (A : Option Addr) (c : Nat) (b : List UInt8) (h : Rd w A (b.map U8)) (hl : b.length ≤ 9223372036854775807) (a : Int) (lo : -9223372036854775808 ≤ a) (hi : a ≤ 9223372036854775807) :
    Calls Tryd.prog 67 #[.slice A b.length c, .int .i64 a] w (RetRd b a w) := by
  by_cases h0 : a < 0
  · have e0 := Lib.hid (rd_range (b := b) (Or.inl h0))
    go_enter Tryd.func67, Tryd.ntmps67
    go_wp2
    exact bodyPost_ret (v := .tuple #[.int .i64 0, .int .i64 0, .int .i64 2]) (by simp [results, Tryd.results67, go_sem]) rfl (retRd e0.out)
  · by_cases h1 : (b.length : Int) < a
    · have e0 := Lib.hid (rd_range (b := b) (Or.inr h1))
      go_enter Tryd.func67, Tryd.ntmps67
      go_wp2
      exact bodyPost_ret (v := .tuple #[.int .i64 0, .int .i64 0, .int .i64 2]) (by simp [results, Tryd.results67, go_sem]) rfl (retRd e0.out)
    · obtain ⟨k, rfl⟩ : ∃ k : Nat, a = k := ⟨a.toNat, by omega⟩
      have hk : k ≤ b.length := by omega
      clear h0 h1 lo hi
      go_enter Tryd.func67, Tryd.ntmps67
      go_wp2
      go_loop [7, 18] (fun x i => ∃ j v : Nat, x = .int .u64 v ∧ i = .int .i64 j ∧ Reads b k j v) (fun x i => 10 - (intOf i).toNat)
      case atStart => exact ⟨0, 0, rfl, rfl, Reads.start b k hk⟩
      case round =>
        obtain ⟨j, v, rfl, rfl, hR⟩ := hrel
        have hj : j ≤ 10 := hR.1
        have hkj : k + j ≤ b.length := hR.2.1
        have HR := Lib.hid hR
        clear hR
        by_cases hlt : j < 10
        · have hv := HR.out.lt hlt
          by_cases hin : k + j < b.length
          · obtain ⟨bb, off, rfl, hb, hck⟩ := h.at8 hin
            have hcn := b[k + j].toNat_lt
            generalize hcc : b[k + j].toNat = ch at *
            have Hcc := Lib.hid hcc
            clear hcc
            obtain ⟨d, hd⟩ : ∃ d, d = ch % 128 := ⟨_, rfl⟩
            obtain ⟨x, hx⟩ : ∃ x, x = nextX v d j := ⟨_, rfl⟩
            have q1 : bits BinOp.and IntKind.u8 (ch : Int) 127 = (d : Int) := by rw [hd]; exact w8_low7 ch (by omega)
            have q2 : IntKind.u64.wrap (d : Int) = (d : Int) := w64_small d (by omega)
            have q3 : bits BinOp.or IntKind.u64 (v : Int) (IntKind.u64.wrap ((d : Int) * 2 ^ (7 * j))) = (x : Int) := by rw [hx]; exact w64_next v d j hv
            have hxl : x < 18446744073709551616 := by rw [hx]; exact nextX_lt v d j hv
            have Hd := Lib.hid hd
            have Hx := Lib.hid hx
            clear hd hx
            by_cases hc : ch < 128
            · by_cases hbad : (ch = 0 ∧ 0 < j) ∨ (j = 9 ∧ 1 < ch)
              · have e0 := Lib.hid (HR.out.bad hlt hin Hcc.out hc hbad)
                clear Hcc q1 q2 q3
                rcases hbad with ⟨h1, h2⟩ | ⟨h1, h2⟩
                · obtain rfl : ch = 0 := h1
                  go_wp2_with fail
                  exact bodyPost_ret (v := .tuple #[.int .i64 0, .int .i64 0, .int .i64 3]) (by simp [results, Tryd.results67, go_sem]) rfl (retRd e0.out)
                · have h3 : 9 ≤ j := by omega
                  clear h1
                  go_wp2_with fail
                  exact bodyPost_ret (v := .tuple #[.int .i64 0, .int .i64 0, .int .i64 3]) (by simp [results, Tryd.results67, go_sem]) rfl (retRd e0.out)
              · have e0 := Lib.hid (HR.out.ok hlt hin Hcc.out hc hbad)
                have hdc : d = ch := by rw [Hd.out]; omega
                rw [← hdc, ← Hx.out] at e0
                clear hdc
                by_cases hz : ch = 0
                · obtain rfl : j = 0 := by omega
                  obtain rfl : v = 0 := by have := HR.out.2.2.1; simp at this; exact this
                  subst hz
                  obtain rfl : d = 0 := Hd.out
                  rw [Hx.out] at e0
                  clear q1 q2 q3 hbad hcn
                  have hck' : w.cell? ⟨bb, off + k, none⟩ = some (.int .u8 0) := hck
                  clear hck
                  go_wp2_with fail
                  exact bodyPost_ret (v := .tuple #[.int .i64 _, .int .i64 (↑k + 1), .int .i64 0]) (by simp [results, Tryd.results67, go_sem]; rfl) rfl (retRd (by rw [unzig0]; simpa using e0.out))
                · have e1 := Lib.hid (w64_unzig x hxl)
                  by_cases h9 : 9 ≤ j
                  · have h1 : ch ≤ 1 := by omega
                    clear hbad
                    go_wp2_with fail
                    exact bodyPost_ret (v := .tuple #[.int .i64 _, .int .i64 (↑k + 9 + 1), .int .i64 0]) (by simp [results, Tryd.results67, go_sem]; rfl) rfl (retRd (by rw [e1.out, show (9 : Int) = (j : Int) by omega]; exact e0.out))
                  · clear hbad
                    go_wp2_with fail
                    exact bodyPost_ret (v := .tuple #[.int .i64 _, .int .i64 (↑k + ↑j + 1), .int .i64 0]) (by simp [results, Tryd.results67, go_sem]; rfl) rfl (retRd (by rw [e1.out]; exact e0.out))
            · have HN := Lib.hid (HR.out.next hlt hin Hcc.out (by omega) Hd.out)
              rw [← Hx.out] at HN
              go_wp2_with fail
              go_round
              case rel => exact ⟨j + 1, x, rfl, by go_num, HN.out⟩
              case measure => simp [intOf]; omega
          · have e0 := Lib.hid (HR.out.short hlt hin)
            go_wp2_with fail
            exact bodyPost_ret (v := .tuple #[.int .i64 0, .int .i64 0, .int .i64 4]) (by simp [results, Tryd.results67, go_sem]) rfl (retRd e0.out)
        · obtain rfl : j = 10 := by omega
          have e0 := Lib.hid HR.out.long
          go_wp2_with fail
          exact bodyPost_ret (v := .tuple #[.int .i64 0, .int .i64 0, .int .i64 3]) (by simp [results, Tryd.results67, go_sem]) rfl (retRd e0.out)
end Go.Proofs.YtfjiikcbcoohdaaDoor
