/-
  The walks of writes, Writes and Value of layer 49, and of the reference's. Conditions: none.
-/
import Derived.Test.YtfjiikcbcoohdaaDoorROpsLeaf
import Derived.Test.YtfjiikcbcoohdaaDoorOpsSame
import Derived.Test.YtfjiikcbcoohdaaDoorRow
import Derived.Deep.DeepCutAuto
namespace Go.Proofs.YtfjiikcbcoohdaaDoor
open Go.RowKit
set_option linter.unusedVariables false
set_option linter.unusedSimpArgs false

def fldB (f : Int) : Bool := (f == 0) || ((f == 1) || (f == 2))
def kndB (o : OP) (f : Int) : Bool := (o.kd == 0) || ((o.kd == 1) && (o.se == f))
/-- whether an operation writes a field of its own note -/
def wrB (o : OP) (f : Int) : Bool := fldB f && kndB o f
def wrsB (o : OP) (n f : Int) : Bool := (o.id == n) && wrB o f
def vaN (o : OP) (f : Int) : Int := if f = 0 then 0 else if o.kd = 0 then (if f = 1 then o.sf else o.st) else o.nn
def vaT (o : OP) (f : Int) : List UInt8 := if f = 0 then (if o.kd = 0 then o.nt else o.tx) else []
def va4 (a b c : Int) (s : List UInt8) : Array Value := #[.int .i64 a, .int .i64 b, .int .i64 c, .string ⟨s.toArray⟩]
def valC (o : OP) (f : Int) : Array Value := if wrB o f = true then va4 o.ac o.ad (vaN o f) (vaT o f) else va4 0 0 0 []
def RetVal (v : Value) (w : World) (e : Ending) (w' : World) : Prop := e = .returned v ∧ Below w.heap.size w w'
theorem va4_one (a b c : Int) (s : List UInt8) : ((va4 a b c s).all (·.oneCell')) = true := by simp [va4, Value.oneCell']
theorem fldB_in (f : Int) : decide (0 ≤ f ∧ f ≤ 2) = fldB f := by
  unfold fldB; rw [Bool.eq_iff_iff]; simp; omega
theorem valC_no {o : OP} {f : Int} (h : wrB o f = false) : valC o f = va4 0 0 0 [] := by unfold valC; rw [h]; rfl
theorem valC_yes {o : OP} {f : Int} (h : wrB o f = true) : valC o f = va4 o.ac o.ad (vaN o f) (vaT o f) := by unfold valC; rw [h]; rfl


set_option maxRecDepth 100000 in
set_option maxHeartbeats 8000000 in
theorem owrites_any (w : World) (o : OP) (A : Option Addr) (c : Nat) (f : Int) : Calls Tryd.prog 49 #[opV o A c, .int .i64 f] w (RetBool (wrB o f) w) := by
  unfold opV opC
  have hb1 := Lib.hid (fun x => (Below.refl w.heap.size w).alloc (Nat.le_refl _) x)

  rcases t0 : (f == 0) with _ | _
  · rcases t1 : (f == 1) with _ | _
    · rcases t2 : (f == 2) with _ | _
      · have HR : Hid (wrB o f = false) := by rw [Hid, wrB, fldB, t0, t1, t2]; rfl
        go_enter Tryd.func49, Tryd.ntmps49
        go_wp2_with fail
        go_ret
        exact ⟨by rw [HR.out]; rfl, hb1.out _⟩
      · rcases k0 : (o.kd == 0) with _ | _
        · rcases k1 : (o.kd == 1) with _ | _
          · have hK : kndB o f = false := by rw [kndB, k0, k1]; rfl
            have HR : Hid (wrB o f = false) := by rw [Hid, wrB, hK, fldB, t0, t1, t2]; rfl
            clear hK
            go_enter Tryd.func49, Tryd.ntmps49
            go_wp2_with fail
            go_ret
            exact ⟨by rw [HR.out]; rfl, hb1.out _⟩
          · rcases s1 : (o.se == f) with _ | _
            · have hK : kndB o f = false := by rw [kndB, k0, k1, s1]; rfl
              have HR : Hid (wrB o f = false) := by rw [Hid, wrB, hK, fldB, t0, t1, t2]; rfl
              clear hK
              go_enter Tryd.func49, Tryd.ntmps49
              go_wp2_with fail
              go_ret
              exact ⟨by rw [HR.out]; rfl, hb1.out _⟩
            · have hK : kndB o f = true := by rw [kndB, k0, k1, s1]; rfl
              have HR : Hid (wrB o f = true) := by rw [Hid, wrB, hK, fldB, t0, t1, t2]; rfl
              clear hK
              go_enter Tryd.func49, Tryd.ntmps49
              go_wp2_with fail
              go_ret
              exact ⟨by rw [HR.out]; rfl, hb1.out _⟩
        · have hK : kndB o f = true := by rw [kndB, k0]; rfl
          have HR : Hid (wrB o f = true) := by rw [Hid, wrB, hK, fldB, t0, t1, t2]; rfl
          clear hK
          go_enter Tryd.func49, Tryd.ntmps49
          go_wp2_with fail
          go_ret
          exact ⟨by rw [HR.out]; rfl, hb1.out _⟩
    · rcases k0 : (o.kd == 0) with _ | _
      · rcases k1 : (o.kd == 1) with _ | _
        · have hK : kndB o f = false := by rw [kndB, k0, k1]; rfl
          have HR : Hid (wrB o f = false) := by rw [Hid, wrB, hK, fldB, t0, t1]; rfl
          clear hK
          go_enter Tryd.func49, Tryd.ntmps49
          go_wp2_with fail
          go_ret
          exact ⟨by rw [HR.out]; rfl, hb1.out _⟩
        · rcases s1 : (o.se == f) with _ | _
          · have hK : kndB o f = false := by rw [kndB, k0, k1, s1]; rfl
            have HR : Hid (wrB o f = false) := by rw [Hid, wrB, hK, fldB, t0, t1]; rfl
            clear hK
            go_enter Tryd.func49, Tryd.ntmps49
            go_wp2_with fail
            go_ret
            exact ⟨by rw [HR.out]; rfl, hb1.out _⟩
          · have hK : kndB o f = true := by rw [kndB, k0, k1, s1]; rfl
            have HR : Hid (wrB o f = true) := by rw [Hid, wrB, hK, fldB, t0, t1]; rfl
            clear hK
            go_enter Tryd.func49, Tryd.ntmps49
            go_wp2_with fail
            go_ret
            exact ⟨by rw [HR.out]; rfl, hb1.out _⟩
      · have hK : kndB o f = true := by rw [kndB, k0]; rfl
        have HR : Hid (wrB o f = true) := by rw [Hid, wrB, hK, fldB, t0, t1]; rfl
        clear hK
        go_enter Tryd.func49, Tryd.ntmps49
        go_wp2_with fail
        go_ret
        exact ⟨by rw [HR.out]; rfl, hb1.out _⟩
  · rcases k0 : (o.kd == 0) with _ | _
    · rcases k1 : (o.kd == 1) with _ | _
      · have hK : kndB o f = false := by rw [kndB, k0, k1]; rfl
        have HR : Hid (wrB o f = false) := by rw [Hid, wrB, hK, fldB, t0]; rfl
        clear hK
        go_enter Tryd.func49, Tryd.ntmps49
        go_wp2_with fail
        go_ret
        exact ⟨by rw [HR.out]; rfl, hb1.out _⟩
      · rcases s1 : (o.se == f) with _ | _
        · have hK : kndB o f = false := by rw [kndB, k0, k1, s1]; rfl
          have HR : Hid (wrB o f = false) := by rw [Hid, wrB, hK, fldB, t0]; rfl
          clear hK
          go_enter Tryd.func49, Tryd.ntmps49
          go_wp2_with fail
          go_ret
          exact ⟨by rw [HR.out]; rfl, hb1.out _⟩
        · have hK : kndB o f = true := by rw [kndB, k0, k1, s1]; rfl
          have HR : Hid (wrB o f = true) := by rw [Hid, wrB, hK, fldB, t0]; rfl
          clear hK
          go_enter Tryd.func49, Tryd.ntmps49
          go_wp2_with fail
          go_ret
          exact ⟨by rw [HR.out]; rfl, hb1.out _⟩
    · have hK : kndB o f = true := by rw [kndB, k0]; rfl
      have HR : Hid (wrB o f = true) := by rw [Hid, wrB, hK, fldB, t0]; rfl
      clear hK
      go_enter Tryd.func49, Tryd.ntmps49
      go_wp2_with fail
      go_ret
      exact ⟨by rw [HR.out]; rfl, hb1.out _⟩

set_option maxRecDepth 100000 in
set_option maxHeartbeats 8000000 in
theorem rwrites_any (w : World) (o : OP) (A : Option Addr) (c : Nat) (f : Int) : Calls Tryd.prog 50 #[opV o A c, .int .i64 f] w (RetBool (wrB o f) w) := by
  unfold opV opC
  have hb1 := Lib.hid (fun x => (Below.refl w.heap.size w).alloc (Nat.le_refl _) x)

  rcases h0 : fldB f with _ | _
  · have kW := fun w => within_is w ((fldB_in f).trans h0)
    have HR : Hid (wrB o f = false) := by rw [Hid, wrB, h0]; rfl
    clear h0
    go_enter Tryd.func50, Tryd.ntmps50
    go_wp2_with fail
    refine (kW _).mono ?_
    rintro e w2 ⟨rfl, rfl⟩
    go_wp2_with fail
    go_ret
    exact ⟨by rw [HR.out]; rfl, hb1.out _⟩
  · have kW := fun w => within_is w ((fldB_in f).trans h0)
    rcases k0 : (o.kd == 0) with _ | _
    · rcases k1 : (o.kd == 1) with _ | _
      · have hK : kndB o f = false := by rw [kndB, k0, k1]; rfl
        have HR : Hid (wrB o f = false) := by rw [Hid, wrB, hK, h0]; rfl
        clear hK h0
        go_enter Tryd.func50, Tryd.ntmps50
        go_wp2_with fail
        refine (kW _).mono ?_
        rintro e w2 ⟨rfl, rfl⟩
        go_wp2_with fail
        go_ret
        exact ⟨by rw [HR.out]; rfl, hb1.out _⟩
      · rcases s1 : (o.se == f) with _ | _
        · have hK : kndB o f = false := by rw [kndB, k0, k1, s1]; rfl
          have HR : Hid (wrB o f = false) := by rw [Hid, wrB, hK, h0]; rfl
          clear hK h0
          go_enter Tryd.func50, Tryd.ntmps50
          go_wp2_with fail
          refine (kW _).mono ?_
          rintro e w2 ⟨rfl, rfl⟩
          go_wp2_with fail
          go_ret
          exact ⟨by rw [HR.out]; rfl, hb1.out _⟩
        · have hK : kndB o f = true := by rw [kndB, k0, k1, s1]; rfl
          have HR : Hid (wrB o f = true) := by rw [Hid, wrB, hK, h0]; rfl
          clear hK h0
          go_enter Tryd.func50, Tryd.ntmps50
          go_wp2_with fail
          refine (kW _).mono ?_
          rintro e w2 ⟨rfl, rfl⟩
          go_wp2_with fail
          go_ret
          exact ⟨by rw [HR.out]; rfl, hb1.out _⟩
    · have hK : kndB o f = true := by rw [kndB, k0]; rfl
      have HR : Hid (wrB o f = true) := by rw [Hid, wrB, hK, h0]; rfl
      clear hK h0
      go_enter Tryd.func50, Tryd.ntmps50
      go_wp2_with fail
      refine (kW _).mono ?_
      rintro e w2 ⟨rfl, rfl⟩
      go_wp2_with fail
      go_ret
      exact ⟨by rw [HR.out]; rfl, hb1.out _⟩

theorem owrites_is (w : World) {o : OP} {A : Option Addr} {c : Nat} {f : Int} {r : Bool} (h : wrB o f = r) : Calls Tryd.prog 49 #[opV o A c, .int .i64 f] w (RetBool r w) := by
  subst h; exact owrites_any w o A c f
theorem rwrites_is (w : World) {o : OP} {A : Option Addr} {c : Nat} {f : Int} {r : Bool} (h : wrB o f = r) : Calls Tryd.prog 50 #[opV o A c, .int .i64 f] w (RetBool r w) := by
  subst h; exact rwrites_any w o A c f

set_option maxRecDepth 100000 in
set_option maxHeartbeats 8000000 in
theorem oWrites_any (w : World) (o : OP) (A : Option Addr) (c : Nat) (n f : Int) : Calls Tryd.prog 21 #[opV o A c, .int .i64 n, .int .i64 f] w (RetBool (wrsB o n f) w) := by
  have kW := fun w => owrites_any w o A c f
  unfold opV opC at kW ⊢
  have hb1 := Lib.hid (fun x => (Below.refl w.heap.size w).alloc (Nat.le_refl _) x)
  rcases t : (o.id == n) with _ | _
  · have HR : Hid (wrsB o n f = false) := by rw [Hid, wrsB, t]; rfl
    go_enter Tryd.func21, Tryd.ntmps21
    go_wp2_with fail
    go_ret
    exact ⟨by rw [HR.out]; rfl, hb1.out _⟩
  · have HR : Hid (wrsB o n f = wrB o f) := by rw [Hid, wrsB, t]; rfl
    generalize wrB o f = B at *
    go_enter Tryd.func21, Tryd.ntmps21
    go_wp2_with fail
    refine (kW _).mono ?_
    rintro e w2 ⟨rfl, hb2⟩
    go_wp2_with fail
    go_ret
    exact ⟨by rw [HR.out]; rfl, stepB (hb1.out _) hb2⟩

set_option maxRecDepth 100000 in
set_option maxHeartbeats 8000000 in
theorem rWrites_any (w : World) (o : OP) (A : Option Addr) (c : Nat) (n f : Int) : Calls Tryd.prog 22 #[opV o A c, .int .i64 n, .int .i64 f] w (RetBool (wrsB o n f) w) := by
  have kW := fun w => rwrites_any w o A c f
  unfold opV opC at kW ⊢
  have hb1 := Lib.hid (fun x => (Below.refl w.heap.size w).alloc (Nat.le_refl _) x)
  rcases t : (o.id == n) with _ | _
  · have HR : Hid (wrsB o n f = false) := by rw [Hid, wrsB, t]; rfl
    go_enter Tryd.func22, Tryd.ntmps22
    go_wp2_with fail
    go_ret
    exact ⟨by rw [HR.out]; rfl, hb1.out _⟩
  · have HR : Hid (wrsB o n f = wrB o f) := by rw [Hid, wrsB, t]; rfl
    generalize wrB o f = B at *
    go_enter Tryd.func22, Tryd.ntmps22
    go_wp2_with fail
    refine (kW _).mono ?_
    rintro e w2 ⟨rfl, hb2⟩
    go_wp2_with fail
    go_ret
    exact ⟨by rw [HR.out]; rfl, stepB (hb1.out _) hb2⟩

theorem wr_cases {o : OP} {f : Int} (h : wrB o f = true) : f = 0 ∨ f = 1 ∨ f = 2 := by
  unfold wrB fldB at h; simp at h; exact h.1
theorem Blk.opAt {w : World} {b : Nat} {t : TypeId} {o : OP} {A : Option Addr} {c : Nat} (h : Blk w b t (opC o A c).toArray) : OpAt w b o A c := OpAt.of fun j u hu => by rw [h.cell]; simpa using hu
/-- only block B differs -/
def Up3 (w : World) (B : Nat) (W wr : World) : Prop := W.grownBy wr (some B)
theorem Up3.set2 (w : World) (B : Nat) (W : World) (i j : Nat) (u v : Value) : Up3 w B W ((W.setCell ⟨B, i, none⟩ u).setCell ⟨B, j, none⟩ v) := (grown_set _ _ _ _).trans (grown_set _ _ _ _)
theorem Up3.drew {w : World} {B : Nat} {W wr : World} (h : Up3 w B W wr) : Up3 w B W wr.drew := h.trans ⟨rfl, rfl, rfl, Nat.le_refl _, fun _ _ _ => rfl⟩
theorem Up3.blk {w : World} {B : Nat} {W wr : World} (h : Up3 w B W wr) {g : Nat} {t : TypeId} {cs : Array Value} (hg : g < B) (hb : Blk W g t cs) : Blk wr g t cs := hb.kept h (by simp; omega)
theorem Up3.below {w : World} {B : Nat} {W wr : World} (h : Up3 w B W wr) {n : Nat} (hg : n < B) (hb : Below n w W) (hs : n ≤ W.heap.size := by exact Below.size ‹_›) : Below n w wr := hb.grown h hs (fun k e => by cases e; omega)

theorem results_row1 {P : Program} {w : World} {fn : Func} {tmps : Array Value} {x g : Nat} {t : TypeId} {v : Value} (hr : fn.results = #[.cell x t]) (hx : tmps.getD x undef = .pointer (some ⟨g, 0, none⟩))
    (hl : (loadVar t ⟨g, 0, none⟩).run P w = .ok v w) : (results fn tmps).run P w = .ok v w := by
  unfold results
  rw [hr]
  simp only [List.mapM_toArray, List.mapM_cons, List.mapM_nil, hx, asAddr, Sem.run_bind, Sem.run_pure, Result.andThen_ok, hl, map_eq_pure_bind]
  rfl

set_option maxRecDepth 100000 in
set_option maxHeartbeats 8000000 in
theorem ovalue_no (w : World) (o : OP) (A : Option Addr) (c : Nat) (f : Int) (h : wrB o f = false) : Calls Tryd.prog 23 #[opV o A c, .int .i64 f] w (RetVal (.agg (valC o f)) w) := by
  have kW := fun w => owrites_is w (A := A) (c := c) h
  rw [valC_no h]
  clear h
  unfold opV opC at kW ⊢
  obtain ⟨W1, hW1⟩ : ∃ x, (w.alloc (.cells (opC o A c).toArray 30)).alloc (.cells (va4 0 0 0 []) 44) = x := ⟨_, rfl⟩
  have hb1 : Below w.heap.size w W1 := by rw [← hW1]; exact below2 _ _ _
  have ho1 : Blk W1 w.heap.size 30 (opC o A c).toArray := by rw [← hW1]; exact (Blk.new _ _ _).up (Up.alloc' _ _)
  have hv1 : Blk W1 (w.heap.size + 1) 44 (va4 0 0 0 []) := by
    rw [← hW1]; have := Blk.new (w.alloc (.cells (opC o A c).toArray 30)) 44 (va4 0 0 0 []); rw [World.size_alloc] at this; exact this
  have HW1 := Lib.hid hW1
  clear hW1
  go_enter Tryd.func23, Tryd.ntmps23
  go_wp2_with fail
  have HW1' := HW1.out
  unfold opC va4 at HW1'
  simp only [HW1']
  clear HW1 HW1'
  refine (kW _).mono ?_
  rintro e w2 ⟨rfl, hb2⟩
  have hv2 := hv1.up (Up.of hb2)
  go_upto_region 2 with fail
  refine wp_region_lit ?_
  refine wpList_plain rfl fun K hK => ?_
  go_simp
  refine hK _ _ ?_
  clear hK K
  refine wpList_storeRow rfl _ _ _ rfl (w.heap.size + 1) _ (va4 0 0 0 []) (va4 0 0 0 []) (by go_simp) (by go_simp; first | done | rfl) hv2 (by kernel_rfl) rfl (va4_one _ _ _ _) ?_
  intro W hW gW
  go_wp2_with fail
  refine bodyPost_ret (results_row1 (g := w.heap.size + 1) rfl (by go_simp) (load_row hW Tryd.underlying44 rfl (by kernel_rfl))) rfl ⟨rfl, ?_⟩
  have hbb := stepB hb1 hb2
  exact hbb.grown gW hbb.size (fun k e => by cases e; omega)

set_option maxRecDepth 100000 in
set_option maxHeartbeats 8000000 in
theorem rvalue_no (w : World) (o : OP) (A : Option Addr) (c : Nat) (f : Int) (h : wrB o f = false) : Calls Tryd.prog 24 #[opV o A c, .int .i64 f] w (RetVal (.agg (valC o f)) w) := by
  have kW := fun w => rwrites_is w (A := A) (c := c) h
  rw [valC_no h]
  clear h
  unfold opV opC at kW ⊢
  obtain ⟨W1, hW1⟩ : ∃ x, (w.alloc (.cells (opC o A c).toArray 30)).alloc (.cells (va4 0 0 0 []) 44) = x := ⟨_, rfl⟩
  have hb1 : Below w.heap.size w W1 := by rw [← hW1]; exact below2 _ _ _
  have ho1 : Blk W1 w.heap.size 30 (opC o A c).toArray := by rw [← hW1]; exact (Blk.new _ _ _).up (Up.alloc' _ _)
  have hv1 : Blk W1 (w.heap.size + 1) 44 (va4 0 0 0 []) := by
    rw [← hW1]; have := Blk.new (w.alloc (.cells (opC o A c).toArray 30)) 44 (va4 0 0 0 []); rw [World.size_alloc] at this; exact this
  have HW1 := Lib.hid hW1
  clear hW1
  go_enter Tryd.func24, Tryd.ntmps24
  go_wp2_with fail
  have HW1' := HW1.out
  unfold opC va4 at HW1'
  simp only [HW1']
  clear HW1 HW1'
  refine (kW _).mono ?_
  rintro e w2 ⟨rfl, hb2⟩
  have hv2 := hv1.up (Up.of hb2)
  go_upto_region 2 with fail
  refine wp_region_lit ?_
  refine wpList_plain rfl fun K hK => ?_
  go_simp
  refine hK _ _ ?_
  clear hK K
  refine wpList_storeRow rfl _ _ _ rfl (w.heap.size + 1) _ (va4 0 0 0 []) (va4 0 0 0 []) (by go_simp) (by go_simp; first | done | rfl) hv2 (by kernel_rfl) rfl (va4_one _ _ _ _) ?_
  intro W hW gW
  go_wp2_with fail
  refine bodyPost_ret (results_row1 (g := w.heap.size + 1) rfl (by go_simp) (load_row hW Tryd.underlying44 rfl (by kernel_rfl))) rfl ⟨rfl, ?_⟩
  have hbb := stepB hb1 hb2
  exact hbb.grown gW hbb.size (fun k e => by cases e; omega)

set_option maxRecDepth 100000 in
set_option maxHeartbeats 8000000 in
theorem ovalue_0 (w : World) (o : OP) (A : Option Addr) (c : Nat) (h : wrB o 0 = true) : Calls Tryd.prog 23 #[opV o A c, .int .i64 0] w (RetVal (.agg (valC o 0)) w) := by
  have kW := fun w => owrites_is w (A := A) (c := c) h
  unfold opV opC at kW ⊢
  obtain ⟨W1, hW1⟩ : ∃ x, (w.alloc (.cells (opC o A c).toArray 30)).alloc (.cells (va4 0 0 0 []) 44) = x := ⟨_, rfl⟩
  have hb1 : Below w.heap.size w W1 := by rw [← hW1]; exact below2 _ _ _
  have ho1 : Blk W1 w.heap.size 30 (opC o A c).toArray := by rw [← hW1]; exact (Blk.new _ _ _).up (Up.alloc' _ _)
  have hv1 : Blk W1 (w.heap.size + 1) 44 (va4 0 0 0 []) := by
    rw [← hW1]; have := Blk.new (w.alloc (.cells (opC o A c).toArray 30)) 44 (va4 0 0 0 []); rw [World.size_alloc] at this; exact this
  have HW1 := Lib.hid hW1
  clear hW1
  rcases k0 : (o.kd == 0) with _ | _
  · have HR : Hid (valC o 0 = (va4 o.ac o.ad 0 o.tx)) := by
      have kk : ¬ o.kd = 0 := by simpa using k0
      rw [Hid, valC_yes h]; unfold vaN vaT; simp [kk]
    clear h
    go_enter Tryd.func23, Tryd.ntmps23
    go_wp2_with fail
    have HW1' := HW1.out
    unfold opC va4 at HW1'
    simp only [HW1']
    clear HW1 HW1'
    refine (kW _).mono ?_
    rintro e w2 ⟨rfl, hb2⟩
    have hv2 := hv1.up (Up.of hb2)
    have ho2 := ho1.up (Up.of hb2)
    have hz2 : w.heap.size + 1 < w2.heap.size := Nat.lt_of_lt_of_le (Blk.lt hv1) hb2.size
    have hbe2 := stepB hb1 hb2
    obtain ⟨W3, hW3⟩ : ∃ x, w2.alloc (.cells #[.int .i64 o.ac, .int .i64 o.ad, .int .i64 o.nn, .string ⟨o.tx.toArray⟩] 44) = x := ⟨_, rfl⟩
    have hv : Blk W3 w2.heap.size 44 (va4 o.ac o.ad o.nn o.tx) := by rw [← hW3]; exact Blk.new _ _ _
    have hres : Blk W3 (w.heap.size + 1) 44 (va4 0 0 0 []) := by rw [← hW3]; exact hv2.up (Up.alloc' _ _)
    have ho3 : Blk W3 w.heap.size 30 (opC o A c).toArray := by rw [← hW3]; exact ho2.up (Up.alloc' _ _)
    have hbe : Below w.heap.size w W3 := by rw [← hW3]; exact hbe2.alloc hbe2.size _
    have HW3 := Lib.hid hW3
    obtain ⟨⟨m0, m1, m2, m3⟩, ⟨m4, m5, m6, m7, m8, m9, m10⟩, ⟨m11, m12, m13, m14⟩⟩ := ho2.opAt
    clear hW3 hv2 hb2 kW
    go_upto_region 4 with fail
    have HW3' := HW3.out
    simp only [HW3']
    clear HW3 HW3' m0 m1 m2 m3 m4 m5 m6 m7 m8 m9 m10 m11 m12 m13 m14
    obtain ⟨⟨m0, m1, m2, m3⟩, ⟨m4, m5, m6, m7, m8, m9, m10⟩, ⟨m11, m12, m13, m14⟩⟩ := ho3.opAt
    clear hbe2 hb1 ho1 hv1
    generalize w2.heap.size = B at *
    have f2 := hv.free 2
    have f3 := hv.free 3
    have c2 : W3.cell? ⟨B, 2, none⟩ = some (.int .i64 o.nn) := by rw [hv.cell]; rfl
    have c3 : W3.cell? ⟨B, 3, none⟩ = some (.string ⟨o.tx.toArray⟩) := by rw [hv.cell]; rfl
    have hv : Blk (W3.setCell ⟨B, 2, none⟩ (.int .i64 0)) B 44 (va4 o.ac o.ad 0 o.tx) := hv.set 2 (.int .i64 0)
    have hres : Blk (W3.setCell ⟨B, 2, none⟩ (.int .i64 0)) (w.heap.size + 1) 44 (va4 0 0 0 []) := hres.kept (grown_set _ _ _ _) (by simp; omega)
    have hbe := hbe.setCell (p := ⟨B, 2, none⟩) (by show w.heap.size ≤ B; omega) (.int .i64 0)
    go_upto_region 14 with fail
    refine wp_region_lit ?_
    refine wpList_loadRow rfl _ _ rfl B _ (va4 o.ac o.ad 0 o.tx) _ (by go_simp) hv Tryd.underlying44 rfl (by kernel_rfl) ?_
    refine wpList_storeRow rfl _ _ _ rfl (w.heap.size + 1) _ (va4 0 0 0 []) (va4 o.ac o.ad 0 o.tx) (by go_simp) (by go_simp) hres (by kernel_rfl) rfl (va4_one _ _ _ _) ?_
    intro W hW gW
    go_wp2_with fail
    refine bodyPost_ret (results_row1 (g := w.heap.size + 1) rfl (by go_simp) (load_row hW Tryd.underlying44 rfl (by kernel_rfl))) rfl ⟨by rw [HR.out], ?_⟩
    exact hbe.grown gW hbe.size (fun k e => by cases e; omega)
  · have HR : Hid (valC o 0 = (va4 o.ac o.ad 0 o.nt)) := by
      have kk : o.kd = 0 := by simpa using k0
      rw [Hid, valC_yes h]; unfold vaN vaT; simp [kk]
    clear h
    go_enter Tryd.func23, Tryd.ntmps23
    go_wp2_with fail
    have HW1' := HW1.out
    unfold opC va4 at HW1'
    simp only [HW1']
    clear HW1 HW1'
    refine (kW _).mono ?_
    rintro e w2 ⟨rfl, hb2⟩
    have hv2 := hv1.up (Up.of hb2)
    have ho2 := ho1.up (Up.of hb2)
    have hz2 : w.heap.size + 1 < w2.heap.size := Nat.lt_of_lt_of_le (Blk.lt hv1) hb2.size
    have hbe2 := stepB hb1 hb2
    obtain ⟨W3, hW3⟩ : ∃ x, w2.alloc (.cells #[.int .i64 o.ac, .int .i64 o.ad, .int .i64 o.nn, .string ⟨o.tx.toArray⟩] 44) = x := ⟨_, rfl⟩
    have hv : Blk W3 w2.heap.size 44 (va4 o.ac o.ad o.nn o.tx) := by rw [← hW3]; exact Blk.new _ _ _
    have hres : Blk W3 (w.heap.size + 1) 44 (va4 0 0 0 []) := by rw [← hW3]; exact hv2.up (Up.alloc' _ _)
    have ho3 : Blk W3 w.heap.size 30 (opC o A c).toArray := by rw [← hW3]; exact ho2.up (Up.alloc' _ _)
    have hbe : Below w.heap.size w W3 := by rw [← hW3]; exact hbe2.alloc hbe2.size _
    have HW3 := Lib.hid hW3
    obtain ⟨⟨m0, m1, m2, m3⟩, ⟨m4, m5, m6, m7, m8, m9, m10⟩, ⟨m11, m12, m13, m14⟩⟩ := ho2.opAt
    clear hW3 hv2 hb2 kW
    go_upto_region 4 with fail
    have HW3' := HW3.out
    simp only [HW3']
    clear HW3 HW3' m0 m1 m2 m3 m4 m5 m6 m7 m8 m9 m10 m11 m12 m13 m14
    obtain ⟨⟨m0, m1, m2, m3⟩, ⟨m4, m5, m6, m7, m8, m9, m10⟩, ⟨m11, m12, m13, m14⟩⟩ := ho3.opAt
    clear hbe2 hb1 ho1 hv1
    generalize w2.heap.size = B at *
    have f2 := hv.free 2
    have f3 := hv.free 3
    have c2 : W3.cell? ⟨B, 2, none⟩ = some (.int .i64 o.nn) := by rw [hv.cell]; rfl
    have c3 : W3.cell? ⟨B, 3, none⟩ = some (.string ⟨o.tx.toArray⟩) := by rw [hv.cell]; rfl
    go_upto_region 5 with fail
    go_cut [] (fun wx => Blk wx B 44 (va4 o.ac o.ad 0 o.nt) ∧ Up3 w B W3 wx ∧ ∃ wy, wy = wx)
    case first =>
      go_region
      all_goals
        go_wp2_with fail
        go_meet
        exact ⟨by first | exact (hv.set 2 (.int .i64 0)).set 3 (.string ⟨o.nt.toArray⟩) | exact (hv.set 3 (.string ⟨o.nt.toArray⟩)).set 2 (.int .i64 0), by first | exact Up3.set2 _ _ _ _ _ _ _ | exact (Up3.set2 _ _ _ _ _ _ _).drew, _, rfl⟩
    case rest =>
      clear hv f2 f3 c2 c3 m0 m1 m2 m3 m4 m5 m6 m7 m8 m9 m10 m11 m12 m13 m14
      obtain ⟨hv, hu3, W5, hW5⟩ := hcut
      subst hW5
      have hres := hu3.blk (by omega) hres
      have hbe := hu3.below (by omega) hbe
      have hu4 := (hu3.blk (by omega) ho3).opAt
      obtain ⟨⟨m0, m1, m2, m3⟩, ⟨m4, m5, m6, m7, m8, m9, m10⟩, ⟨m11, m12, m13, m14⟩⟩ := hu4
      have f2 := hv.free 2
      have f3 := hv.free 3
      have c2 : W5.cell? ⟨B, 2, none⟩ = some (.int .i64 0) := by rw [hv.cell]; rfl
      have c3 : W5.cell? ⟨B, 3, none⟩ = some (.string ⟨o.nt.toArray⟩) := by rw [hv.cell]; rfl
      clear hu3
      have hv : Blk (W5.setCell ⟨B, 2, none⟩ (.int .i64 0)) B 44 (va4 o.ac o.ad 0 o.nt) := hv.set 2 (.int .i64 0)
      have hres : Blk (W5.setCell ⟨B, 2, none⟩ (.int .i64 0)) (w.heap.size + 1) 44 (va4 0 0 0 []) := hres.kept (grown_set _ _ _ _) (by simp; omega)
      have hbe := hbe.setCell (p := ⟨B, 2, none⟩) (by show w.heap.size ≤ B; omega) (.int .i64 0)
      go_upto_region 14 with fail
      refine wp_region_lit ?_
      refine wpList_loadRow rfl _ _ rfl B _ (va4 o.ac o.ad 0 o.nt) _ (by go_simp) hv Tryd.underlying44 rfl (by kernel_rfl) ?_
      refine wpList_storeRow rfl _ _ _ rfl (w.heap.size + 1) _ (va4 0 0 0 []) (va4 o.ac o.ad 0 o.nt) (by go_simp) (by go_simp) hres (by kernel_rfl) rfl (va4_one _ _ _ _) ?_
      intro W hW gW
      go_wp2_with fail
      refine bodyPost_ret (results_row1 (g := w.heap.size + 1) rfl (by go_simp) (load_row hW Tryd.underlying44 rfl (by kernel_rfl))) rfl ⟨by rw [HR.out], ?_⟩
      exact hbe.grown gW hbe.size (fun k e => by cases e; omega)

set_option maxRecDepth 100000 in
set_option maxHeartbeats 8000000 in
theorem ovalue_1 (w : World) (o : OP) (A : Option Addr) (c : Nat) (h : wrB o 1 = true) : Calls Tryd.prog 23 #[opV o A c, .int .i64 1] w (RetVal (.agg (valC o 1)) w) := by
  have kW := fun w => owrites_is w (A := A) (c := c) h
  unfold opV opC at kW ⊢
  obtain ⟨W1, hW1⟩ : ∃ x, (w.alloc (.cells (opC o A c).toArray 30)).alloc (.cells (va4 0 0 0 []) 44) = x := ⟨_, rfl⟩
  have hb1 : Below w.heap.size w W1 := by rw [← hW1]; exact below2 _ _ _
  have ho1 : Blk W1 w.heap.size 30 (opC o A c).toArray := by rw [← hW1]; exact (Blk.new _ _ _).up (Up.alloc' _ _)
  have hv1 : Blk W1 (w.heap.size + 1) 44 (va4 0 0 0 []) := by
    rw [← hW1]; have := Blk.new (w.alloc (.cells (opC o A c).toArray 30)) 44 (va4 0 0 0 []); rw [World.size_alloc] at this; exact this
  have HW1 := Lib.hid hW1
  clear hW1
  rcases k0 : (o.kd == 0) with _ | _
  · have HR : Hid (valC o 1 = (va4 o.ac o.ad o.nn [])) := by
      have kk : ¬ o.kd = 0 := by simpa using k0
      rw [Hid, valC_yes h]; unfold vaN vaT; simp [kk]
    clear h
    go_enter Tryd.func23, Tryd.ntmps23
    go_wp2_with fail
    have HW1' := HW1.out
    unfold opC va4 at HW1'
    simp only [HW1']
    clear HW1 HW1'
    refine (kW _).mono ?_
    rintro e w2 ⟨rfl, hb2⟩
    have hv2 := hv1.up (Up.of hb2)
    have ho2 := ho1.up (Up.of hb2)
    have hz2 : w.heap.size + 1 < w2.heap.size := Nat.lt_of_lt_of_le (Blk.lt hv1) hb2.size
    have hbe2 := stepB hb1 hb2
    obtain ⟨W3, hW3⟩ : ∃ x, w2.alloc (.cells #[.int .i64 o.ac, .int .i64 o.ad, .int .i64 o.nn, .string ⟨o.tx.toArray⟩] 44) = x := ⟨_, rfl⟩
    have hv : Blk W3 w2.heap.size 44 (va4 o.ac o.ad o.nn o.tx) := by rw [← hW3]; exact Blk.new _ _ _
    have hres : Blk W3 (w.heap.size + 1) 44 (va4 0 0 0 []) := by rw [← hW3]; exact hv2.up (Up.alloc' _ _)
    have ho3 : Blk W3 w.heap.size 30 (opC o A c).toArray := by rw [← hW3]; exact ho2.up (Up.alloc' _ _)
    have hbe : Below w.heap.size w W3 := by rw [← hW3]; exact hbe2.alloc hbe2.size _
    have HW3 := Lib.hid hW3
    obtain ⟨⟨m0, m1, m2, m3⟩, ⟨m4, m5, m6, m7, m8, m9, m10⟩, ⟨m11, m12, m13, m14⟩⟩ := ho2.opAt
    clear hW3 hv2 hb2 kW
    go_upto_region 4 with fail
    have HW3' := HW3.out
    simp only [HW3']
    clear HW3 HW3' m0 m1 m2 m3 m4 m5 m6 m7 m8 m9 m10 m11 m12 m13 m14
    obtain ⟨⟨m0, m1, m2, m3⟩, ⟨m4, m5, m6, m7, m8, m9, m10⟩, ⟨m11, m12, m13, m14⟩⟩ := ho3.opAt
    clear hbe2 hb1 ho1 hv1
    generalize w2.heap.size = B at *
    have f2 := hv.free 2
    have f3 := hv.free 3
    have c2 : W3.cell? ⟨B, 2, none⟩ = some (.int .i64 o.nn) := by rw [hv.cell]; rfl
    have c3 : W3.cell? ⟨B, 3, none⟩ = some (.string ⟨o.tx.toArray⟩) := by rw [hv.cell]; rfl
    have hv : Blk (W3.setCell ⟨B, 3, none⟩ (.string ⟨#[]⟩)) B 44 (va4 o.ac o.ad o.nn []) := hv.set 3 (.string ⟨#[]⟩)
    have hres : Blk (W3.setCell ⟨B, 3, none⟩ (.string ⟨#[]⟩)) (w.heap.size + 1) 44 (va4 0 0 0 []) := hres.kept (grown_set _ _ _ _) (by simp; omega)
    have hbe := hbe.setCell (p := ⟨B, 3, none⟩) (by show w.heap.size ≤ B; omega) (.string ⟨#[]⟩)
    go_upto_region 14 with fail
    refine wp_region_lit ?_
    refine wpList_loadRow rfl _ _ rfl B _ (va4 o.ac o.ad o.nn []) _ (by go_simp) hv Tryd.underlying44 rfl (by kernel_rfl) ?_
    refine wpList_storeRow rfl _ _ _ rfl (w.heap.size + 1) _ (va4 0 0 0 []) (va4 o.ac o.ad o.nn []) (by go_simp) (by go_simp) hres (by kernel_rfl) rfl (va4_one _ _ _ _) ?_
    intro W hW gW
    go_wp2_with fail
    refine bodyPost_ret (results_row1 (g := w.heap.size + 1) rfl (by go_simp) (load_row hW Tryd.underlying44 rfl (by kernel_rfl))) rfl ⟨by rw [HR.out], ?_⟩
    exact hbe.grown gW hbe.size (fun k e => by cases e; omega)
  · have HR : Hid (valC o 1 = (va4 o.ac o.ad o.sf [])) := by
      have kk : o.kd = 0 := by simpa using k0
      rw [Hid, valC_yes h]; unfold vaN vaT; simp [kk]
    clear h
    go_enter Tryd.func23, Tryd.ntmps23
    go_wp2_with fail
    have HW1' := HW1.out
    unfold opC va4 at HW1'
    simp only [HW1']
    clear HW1 HW1'
    refine (kW _).mono ?_
    rintro e w2 ⟨rfl, hb2⟩
    have hv2 := hv1.up (Up.of hb2)
    have ho2 := ho1.up (Up.of hb2)
    have hz2 : w.heap.size + 1 < w2.heap.size := Nat.lt_of_lt_of_le (Blk.lt hv1) hb2.size
    have hbe2 := stepB hb1 hb2
    obtain ⟨W3, hW3⟩ : ∃ x, w2.alloc (.cells #[.int .i64 o.ac, .int .i64 o.ad, .int .i64 o.nn, .string ⟨o.tx.toArray⟩] 44) = x := ⟨_, rfl⟩
    have hv : Blk W3 w2.heap.size 44 (va4 o.ac o.ad o.nn o.tx) := by rw [← hW3]; exact Blk.new _ _ _
    have hres : Blk W3 (w.heap.size + 1) 44 (va4 0 0 0 []) := by rw [← hW3]; exact hv2.up (Up.alloc' _ _)
    have ho3 : Blk W3 w.heap.size 30 (opC o A c).toArray := by rw [← hW3]; exact ho2.up (Up.alloc' _ _)
    have hbe : Below w.heap.size w W3 := by rw [← hW3]; exact hbe2.alloc hbe2.size _
    have HW3 := Lib.hid hW3
    obtain ⟨⟨m0, m1, m2, m3⟩, ⟨m4, m5, m6, m7, m8, m9, m10⟩, ⟨m11, m12, m13, m14⟩⟩ := ho2.opAt
    clear hW3 hv2 hb2 kW
    go_upto_region 4 with fail
    have HW3' := HW3.out
    simp only [HW3']
    clear HW3 HW3' m0 m1 m2 m3 m4 m5 m6 m7 m8 m9 m10 m11 m12 m13 m14
    obtain ⟨⟨m0, m1, m2, m3⟩, ⟨m4, m5, m6, m7, m8, m9, m10⟩, ⟨m11, m12, m13, m14⟩⟩ := ho3.opAt
    clear hbe2 hb1 ho1 hv1
    generalize w2.heap.size = B at *
    have f2 := hv.free 2
    have f3 := hv.free 3
    have c2 : W3.cell? ⟨B, 2, none⟩ = some (.int .i64 o.nn) := by rw [hv.cell]; rfl
    have c3 : W3.cell? ⟨B, 3, none⟩ = some (.string ⟨o.tx.toArray⟩) := by rw [hv.cell]; rfl
    go_upto_region 5 with fail
    go_cut [] (fun wx => Blk wx B 44 (va4 o.ac o.ad 0 o.nt) ∧ Up3 w B W3 wx ∧ ∃ wy, wy = wx)
    case first =>
      go_region
      all_goals
        go_wp2_with fail
        go_meet
        exact ⟨by first | exact (hv.set 2 (.int .i64 0)).set 3 (.string ⟨o.nt.toArray⟩) | exact (hv.set 3 (.string ⟨o.nt.toArray⟩)).set 2 (.int .i64 0), by first | exact Up3.set2 _ _ _ _ _ _ _ | exact (Up3.set2 _ _ _ _ _ _ _).drew, _, rfl⟩
    case rest =>
      clear hv f2 f3 c2 c3 m0 m1 m2 m3 m4 m5 m6 m7 m8 m9 m10 m11 m12 m13 m14
      obtain ⟨hv, hu3, W5, hW5⟩ := hcut
      subst hW5
      have hres := hu3.blk (by omega) hres
      have hbe := hu3.below (by omega) hbe
      have hu4 := (hu3.blk (by omega) ho3).opAt
      obtain ⟨⟨m0, m1, m2, m3⟩, ⟨m4, m5, m6, m7, m8, m9, m10⟩, ⟨m11, m12, m13, m14⟩⟩ := hu4
      have f2 := hv.free 2
      have f3 := hv.free 3
      have c2 : W5.cell? ⟨B, 2, none⟩ = some (.int .i64 0) := by rw [hv.cell]; rfl
      have c3 : W5.cell? ⟨B, 3, none⟩ = some (.string ⟨o.nt.toArray⟩) := by rw [hv.cell]; rfl
      clear hu3
      have hv : Blk (W5.setCell ⟨B, 2, none⟩ (.int .i64 o.sf)) B 44 (va4 o.ac o.ad o.sf o.nt) := hv.set 2 (.int .i64 o.sf)
      have hres : Blk (W5.setCell ⟨B, 2, none⟩ (.int .i64 o.sf)) (w.heap.size + 1) 44 (va4 0 0 0 []) := hres.kept (grown_set _ _ _ _) (by simp; omega)
      have hbe := hbe.setCell (p := ⟨B, 2, none⟩) (by show w.heap.size ≤ B; omega) (.int .i64 o.sf)
      have hv : Blk ((W5.setCell ⟨B, 2, none⟩ (.int .i64 o.sf)).setCell ⟨B, 3, none⟩ (.string ⟨#[]⟩)) B 44 (va4 o.ac o.ad o.sf []) := hv.set 3 (.string ⟨#[]⟩)
      have hres : Blk ((W5.setCell ⟨B, 2, none⟩ (.int .i64 o.sf)).setCell ⟨B, 3, none⟩ (.string ⟨#[]⟩)) (w.heap.size + 1) 44 (va4 0 0 0 []) := hres.kept (grown_set _ _ _ _) (by simp; omega)
      have hbe := hbe.setCell (p := ⟨B, 3, none⟩) (by show w.heap.size ≤ B; omega) (.string ⟨#[]⟩)
      go_upto_region 14 with fail
      refine wp_region_lit ?_
      refine wpList_loadRow rfl _ _ rfl B _ (va4 o.ac o.ad o.sf []) _ (by go_simp) hv Tryd.underlying44 rfl (by kernel_rfl) ?_
      refine wpList_storeRow rfl _ _ _ rfl (w.heap.size + 1) _ (va4 0 0 0 []) (va4 o.ac o.ad o.sf []) (by go_simp) (by go_simp) hres (by kernel_rfl) rfl (va4_one _ _ _ _) ?_
      intro W hW gW
      go_wp2_with fail
      refine bodyPost_ret (results_row1 (g := w.heap.size + 1) rfl (by go_simp) (load_row hW Tryd.underlying44 rfl (by kernel_rfl))) rfl ⟨by rw [HR.out], ?_⟩
      exact hbe.grown gW hbe.size (fun k e => by cases e; omega)

set_option maxRecDepth 100000 in
set_option maxHeartbeats 8000000 in
theorem ovalue_2 (w : World) (o : OP) (A : Option Addr) (c : Nat) (h : wrB o 2 = true) : Calls Tryd.prog 23 #[opV o A c, .int .i64 2] w (RetVal (.agg (valC o 2)) w) := by
  have kW := fun w => owrites_is w (A := A) (c := c) h
  unfold opV opC at kW ⊢
  obtain ⟨W1, hW1⟩ : ∃ x, (w.alloc (.cells (opC o A c).toArray 30)).alloc (.cells (va4 0 0 0 []) 44) = x := ⟨_, rfl⟩
  have hb1 : Below w.heap.size w W1 := by rw [← hW1]; exact below2 _ _ _
  have ho1 : Blk W1 w.heap.size 30 (opC o A c).toArray := by rw [← hW1]; exact (Blk.new _ _ _).up (Up.alloc' _ _)
  have hv1 : Blk W1 (w.heap.size + 1) 44 (va4 0 0 0 []) := by
    rw [← hW1]; have := Blk.new (w.alloc (.cells (opC o A c).toArray 30)) 44 (va4 0 0 0 []); rw [World.size_alloc] at this; exact this
  have HW1 := Lib.hid hW1
  clear hW1
  rcases k0 : (o.kd == 0) with _ | _
  · have HR : Hid (valC o 2 = (va4 o.ac o.ad o.nn [])) := by
      have kk : ¬ o.kd = 0 := by simpa using k0
      rw [Hid, valC_yes h]; unfold vaN vaT; simp [kk]
    clear h
    go_enter Tryd.func23, Tryd.ntmps23
    go_wp2_with fail
    have HW1' := HW1.out
    unfold opC va4 at HW1'
    simp only [HW1']
    clear HW1 HW1'
    refine (kW _).mono ?_
    rintro e w2 ⟨rfl, hb2⟩
    have hv2 := hv1.up (Up.of hb2)
    have ho2 := ho1.up (Up.of hb2)
    have hz2 : w.heap.size + 1 < w2.heap.size := Nat.lt_of_lt_of_le (Blk.lt hv1) hb2.size
    have hbe2 := stepB hb1 hb2
    obtain ⟨W3, hW3⟩ : ∃ x, w2.alloc (.cells #[.int .i64 o.ac, .int .i64 o.ad, .int .i64 o.nn, .string ⟨o.tx.toArray⟩] 44) = x := ⟨_, rfl⟩
    have hv : Blk W3 w2.heap.size 44 (va4 o.ac o.ad o.nn o.tx) := by rw [← hW3]; exact Blk.new _ _ _
    have hres : Blk W3 (w.heap.size + 1) 44 (va4 0 0 0 []) := by rw [← hW3]; exact hv2.up (Up.alloc' _ _)
    have ho3 : Blk W3 w.heap.size 30 (opC o A c).toArray := by rw [← hW3]; exact ho2.up (Up.alloc' _ _)
    have hbe : Below w.heap.size w W3 := by rw [← hW3]; exact hbe2.alloc hbe2.size _
    have HW3 := Lib.hid hW3
    obtain ⟨⟨m0, m1, m2, m3⟩, ⟨m4, m5, m6, m7, m8, m9, m10⟩, ⟨m11, m12, m13, m14⟩⟩ := ho2.opAt
    clear hW3 hv2 hb2 kW
    go_upto_region 4 with fail
    have HW3' := HW3.out
    simp only [HW3']
    clear HW3 HW3' m0 m1 m2 m3 m4 m5 m6 m7 m8 m9 m10 m11 m12 m13 m14
    obtain ⟨⟨m0, m1, m2, m3⟩, ⟨m4, m5, m6, m7, m8, m9, m10⟩, ⟨m11, m12, m13, m14⟩⟩ := ho3.opAt
    clear hbe2 hb1 ho1 hv1
    generalize w2.heap.size = B at *
    have f2 := hv.free 2
    have f3 := hv.free 3
    have c2 : W3.cell? ⟨B, 2, none⟩ = some (.int .i64 o.nn) := by rw [hv.cell]; rfl
    have c3 : W3.cell? ⟨B, 3, none⟩ = some (.string ⟨o.tx.toArray⟩) := by rw [hv.cell]; rfl
    have hv : Blk (W3.setCell ⟨B, 3, none⟩ (.string ⟨#[]⟩)) B 44 (va4 o.ac o.ad o.nn []) := hv.set 3 (.string ⟨#[]⟩)
    have hres : Blk (W3.setCell ⟨B, 3, none⟩ (.string ⟨#[]⟩)) (w.heap.size + 1) 44 (va4 0 0 0 []) := hres.kept (grown_set _ _ _ _) (by simp; omega)
    have hbe := hbe.setCell (p := ⟨B, 3, none⟩) (by show w.heap.size ≤ B; omega) (.string ⟨#[]⟩)
    go_upto_region 14 with fail
    refine wp_region_lit ?_
    refine wpList_loadRow rfl _ _ rfl B _ (va4 o.ac o.ad o.nn []) _ (by go_simp) hv Tryd.underlying44 rfl (by kernel_rfl) ?_
    refine wpList_storeRow rfl _ _ _ rfl (w.heap.size + 1) _ (va4 0 0 0 []) (va4 o.ac o.ad o.nn []) (by go_simp) (by go_simp) hres (by kernel_rfl) rfl (va4_one _ _ _ _) ?_
    intro W hW gW
    go_wp2_with fail
    refine bodyPost_ret (results_row1 (g := w.heap.size + 1) rfl (by go_simp) (load_row hW Tryd.underlying44 rfl (by kernel_rfl))) rfl ⟨by rw [HR.out], ?_⟩
    exact hbe.grown gW hbe.size (fun k e => by cases e; omega)
  · have HR : Hid (valC o 2 = (va4 o.ac o.ad o.st [])) := by
      have kk : o.kd = 0 := by simpa using k0
      rw [Hid, valC_yes h]; unfold vaN vaT; simp [kk]
    clear h
    go_enter Tryd.func23, Tryd.ntmps23
    go_wp2_with fail
    have HW1' := HW1.out
    unfold opC va4 at HW1'
    simp only [HW1']
    clear HW1 HW1'
    refine (kW _).mono ?_
    rintro e w2 ⟨rfl, hb2⟩
    have hv2 := hv1.up (Up.of hb2)
    have ho2 := ho1.up (Up.of hb2)
    have hz2 : w.heap.size + 1 < w2.heap.size := Nat.lt_of_lt_of_le (Blk.lt hv1) hb2.size
    have hbe2 := stepB hb1 hb2
    obtain ⟨W3, hW3⟩ : ∃ x, w2.alloc (.cells #[.int .i64 o.ac, .int .i64 o.ad, .int .i64 o.nn, .string ⟨o.tx.toArray⟩] 44) = x := ⟨_, rfl⟩
    have hv : Blk W3 w2.heap.size 44 (va4 o.ac o.ad o.nn o.tx) := by rw [← hW3]; exact Blk.new _ _ _
    have hres : Blk W3 (w.heap.size + 1) 44 (va4 0 0 0 []) := by rw [← hW3]; exact hv2.up (Up.alloc' _ _)
    have ho3 : Blk W3 w.heap.size 30 (opC o A c).toArray := by rw [← hW3]; exact ho2.up (Up.alloc' _ _)
    have hbe : Below w.heap.size w W3 := by rw [← hW3]; exact hbe2.alloc hbe2.size _
    have HW3 := Lib.hid hW3
    obtain ⟨⟨m0, m1, m2, m3⟩, ⟨m4, m5, m6, m7, m8, m9, m10⟩, ⟨m11, m12, m13, m14⟩⟩ := ho2.opAt
    clear hW3 hv2 hb2 kW
    go_upto_region 4 with fail
    have HW3' := HW3.out
    simp only [HW3']
    clear HW3 HW3' m0 m1 m2 m3 m4 m5 m6 m7 m8 m9 m10 m11 m12 m13 m14
    obtain ⟨⟨m0, m1, m2, m3⟩, ⟨m4, m5, m6, m7, m8, m9, m10⟩, ⟨m11, m12, m13, m14⟩⟩ := ho3.opAt
    clear hbe2 hb1 ho1 hv1
    generalize w2.heap.size = B at *
    have f2 := hv.free 2
    have f3 := hv.free 3
    have c2 : W3.cell? ⟨B, 2, none⟩ = some (.int .i64 o.nn) := by rw [hv.cell]; rfl
    have c3 : W3.cell? ⟨B, 3, none⟩ = some (.string ⟨o.tx.toArray⟩) := by rw [hv.cell]; rfl
    go_upto_region 5 with fail
    go_cut [] (fun wx => Blk wx B 44 (va4 o.ac o.ad 0 o.nt) ∧ Up3 w B W3 wx ∧ ∃ wy, wy = wx)
    case first =>
      go_region
      all_goals
        go_wp2_with fail
        go_meet
        exact ⟨by first | exact (hv.set 2 (.int .i64 0)).set 3 (.string ⟨o.nt.toArray⟩) | exact (hv.set 3 (.string ⟨o.nt.toArray⟩)).set 2 (.int .i64 0), by first | exact Up3.set2 _ _ _ _ _ _ _ | exact (Up3.set2 _ _ _ _ _ _ _).drew, _, rfl⟩
    case rest =>
      clear hv f2 f3 c2 c3 m0 m1 m2 m3 m4 m5 m6 m7 m8 m9 m10 m11 m12 m13 m14
      obtain ⟨hv, hu3, W5, hW5⟩ := hcut
      subst hW5
      have hres := hu3.blk (by omega) hres
      have hbe := hu3.below (by omega) hbe
      have hu4 := (hu3.blk (by omega) ho3).opAt
      obtain ⟨⟨m0, m1, m2, m3⟩, ⟨m4, m5, m6, m7, m8, m9, m10⟩, ⟨m11, m12, m13, m14⟩⟩ := hu4
      have f2 := hv.free 2
      have f3 := hv.free 3
      have c2 : W5.cell? ⟨B, 2, none⟩ = some (.int .i64 0) := by rw [hv.cell]; rfl
      have c3 : W5.cell? ⟨B, 3, none⟩ = some (.string ⟨o.nt.toArray⟩) := by rw [hv.cell]; rfl
      clear hu3
      have hv : Blk (W5.setCell ⟨B, 2, none⟩ (.int .i64 o.st)) B 44 (va4 o.ac o.ad o.st o.nt) := hv.set 2 (.int .i64 o.st)
      have hres : Blk (W5.setCell ⟨B, 2, none⟩ (.int .i64 o.st)) (w.heap.size + 1) 44 (va4 0 0 0 []) := hres.kept (grown_set _ _ _ _) (by simp; omega)
      have hbe := hbe.setCell (p := ⟨B, 2, none⟩) (by show w.heap.size ≤ B; omega) (.int .i64 o.st)
      have hv : Blk ((W5.setCell ⟨B, 2, none⟩ (.int .i64 o.st)).setCell ⟨B, 3, none⟩ (.string ⟨#[]⟩)) B 44 (va4 o.ac o.ad o.st []) := hv.set 3 (.string ⟨#[]⟩)
      have hres : Blk ((W5.setCell ⟨B, 2, none⟩ (.int .i64 o.st)).setCell ⟨B, 3, none⟩ (.string ⟨#[]⟩)) (w.heap.size + 1) 44 (va4 0 0 0 []) := hres.kept (grown_set _ _ _ _) (by simp; omega)
      have hbe := hbe.setCell (p := ⟨B, 3, none⟩) (by show w.heap.size ≤ B; omega) (.string ⟨#[]⟩)
      go_upto_region 14 with fail
      refine wp_region_lit ?_
      refine wpList_loadRow rfl _ _ rfl B _ (va4 o.ac o.ad o.st []) _ (by go_simp) hv Tryd.underlying44 rfl (by kernel_rfl) ?_
      refine wpList_storeRow rfl _ _ _ rfl (w.heap.size + 1) _ (va4 0 0 0 []) (va4 o.ac o.ad o.st []) (by go_simp) (by go_simp) hres (by kernel_rfl) rfl (va4_one _ _ _ _) ?_
      intro W hW gW
      go_wp2_with fail
      refine bodyPost_ret (results_row1 (g := w.heap.size + 1) rfl (by go_simp) (load_row hW Tryd.underlying44 rfl (by kernel_rfl))) rfl ⟨by rw [HR.out], ?_⟩
      exact hbe.grown gW hbe.size (fun k e => by cases e; omega)
theorem ovalue_any (w : World) (o : OP) (A : Option Addr) (c : Nat) (f : Int) : Calls Tryd.prog 23 #[opV o A c, .int .i64 f] w (RetVal (.agg (valC o f)) w) := by
  rcases h : wrB o f with _ | _
  · exact ovalue_no w o A c f h
  · rcases (wr_cases h) with rfl | rfl | rfl
    · exact ovalue_0 w o A c h
    · exact ovalue_1 w o A c h
    · exact ovalue_2 w o A c h

set_option maxRecDepth 100000 in
set_option maxHeartbeats 8000000 in
theorem rvalue_0 (w : World) (o : OP) (A : Option Addr) (c : Nat) (h : wrB o 0 = true) : Calls Tryd.prog 24 #[opV o A c, .int .i64 0] w (RetVal (.agg (valC o 0)) w) := by
  have kW := fun w => rwrites_is w (A := A) (c := c) h
  unfold opV opC at kW ⊢
  obtain ⟨W1, hW1⟩ : ∃ x, (w.alloc (.cells (opC o A c).toArray 30)).alloc (.cells (va4 0 0 0 []) 44) = x := ⟨_, rfl⟩
  have hb1 : Below w.heap.size w W1 := by rw [← hW1]; exact below2 _ _ _
  have ho1 : Blk W1 w.heap.size 30 (opC o A c).toArray := by rw [← hW1]; exact (Blk.new _ _ _).up (Up.alloc' _ _)
  have hv1 : Blk W1 (w.heap.size + 1) 44 (va4 0 0 0 []) := by
    rw [← hW1]; have := Blk.new (w.alloc (.cells (opC o A c).toArray 30)) 44 (va4 0 0 0 []); rw [World.size_alloc] at this; exact this
  have HW1 := Lib.hid hW1
  clear hW1
  rcases k0 : (o.kd == 0) with _ | _
  · have HR : Hid (valC o 0 = (va4 o.ac o.ad 0 o.tx)) := by
      have kk : ¬ o.kd = 0 := by simpa using k0
      rw [Hid, valC_yes h]; unfold vaN vaT; simp [kk]
    clear h
    go_enter Tryd.func24, Tryd.ntmps24
    go_wp2_with fail
    have HW1' := HW1.out
    unfold opC va4 at HW1'
    simp only [HW1']
    clear HW1 HW1'
    refine (kW _).mono ?_
    rintro e w2 ⟨rfl, hb2⟩
    have hv2 := hv1.up (Up.of hb2)
    have ho2 := ho1.up (Up.of hb2)
    have hz2 : w.heap.size + 1 < w2.heap.size := Nat.lt_of_lt_of_le (Blk.lt hv1) hb2.size
    have hbe2 := stepB hb1 hb2
    obtain ⟨W3, hW3⟩ : ∃ x, w2.alloc (.cells #[.int .i64 o.ac, .int .i64 o.ad, .int .i64 0, .string ⟨#[]⟩] 44) = x := ⟨_, rfl⟩
    have hv : Blk W3 w2.heap.size 44 (va4 o.ac o.ad 0 []) := by rw [← hW3]; exact Blk.new _ _ _
    have hres : Blk W3 (w.heap.size + 1) 44 (va4 0 0 0 []) := by rw [← hW3]; exact hv2.up (Up.alloc' _ _)
    have ho3 : Blk W3 w.heap.size 30 (opC o A c).toArray := by rw [← hW3]; exact ho2.up (Up.alloc' _ _)
    have hbe : Below w.heap.size w W3 := by rw [← hW3]; exact hbe2.alloc hbe2.size _
    have HW3 := Lib.hid hW3
    obtain ⟨⟨m0, m1, m2, m3⟩, ⟨m4, m5, m6, m7, m8, m9, m10⟩, ⟨m11, m12, m13, m14⟩⟩ := ho2.opAt
    clear hW3 hv2 hb2 kW
    go_upto_region 4 with fail
    have HW3' := HW3.out
    simp only [HW3']
    clear HW3 HW3' m0 m1 m2 m3 m4 m5 m6 m7 m8 m9 m10 m11 m12 m13 m14
    obtain ⟨⟨m0, m1, m2, m3⟩, ⟨m4, m5, m6, m7, m8, m9, m10⟩, ⟨m11, m12, m13, m14⟩⟩ := ho3.opAt
    clear hbe2 hb1 ho1 hv1
    generalize w2.heap.size = B at *
    have f2 := hv.free 2
    have f3 := hv.free 3
    have c2 : W3.cell? ⟨B, 2, none⟩ = some (.int .i64 0) := by rw [hv.cell]; rfl
    have c3 : W3.cell? ⟨B, 3, none⟩ = some (.string ⟨#[]⟩) := by rw [hv.cell]; rfl
    have hv : Blk (W3.setCell ⟨B, 3, none⟩ (.string ⟨o.tx.toArray⟩)) B 44 (va4 o.ac o.ad 0 o.tx) := hv.set 3 (.string ⟨o.tx.toArray⟩)
    have hres : Blk (W3.setCell ⟨B, 3, none⟩ (.string ⟨o.tx.toArray⟩)) (w.heap.size + 1) 44 (va4 0 0 0 []) := hres.kept (grown_set _ _ _ _) (by simp; omega)
    have hbe := hbe.setCell (p := ⟨B, 3, none⟩) (by show w.heap.size ≤ B; omega) (.string ⟨o.tx.toArray⟩)
    go_upto_region 17 with fail
    refine wp_region_lit ?_
    refine wpList_loadRow rfl _ _ rfl B _ (va4 o.ac o.ad 0 o.tx) _ (by go_simp) hv Tryd.underlying44 rfl (by kernel_rfl) ?_
    refine wpList_storeRow rfl _ _ _ rfl (w.heap.size + 1) _ (va4 0 0 0 []) (va4 o.ac o.ad 0 o.tx) (by go_simp) (by go_simp) hres (by kernel_rfl) rfl (va4_one _ _ _ _) ?_
    intro W hW gW
    go_wp2_with fail
    refine bodyPost_ret (results_row1 (g := w.heap.size + 1) rfl (by go_simp) (load_row hW Tryd.underlying44 rfl (by kernel_rfl))) rfl ⟨by rw [HR.out], ?_⟩
    exact hbe.grown gW hbe.size (fun k e => by cases e; omega)
  · have HR : Hid (valC o 0 = (va4 o.ac o.ad 0 o.nt)) := by
      have kk : o.kd = 0 := by simpa using k0
      rw [Hid, valC_yes h]; unfold vaN vaT; simp [kk]
    clear h
    go_enter Tryd.func24, Tryd.ntmps24
    go_wp2_with fail
    have HW1' := HW1.out
    unfold opC va4 at HW1'
    simp only [HW1']
    clear HW1 HW1'
    refine (kW _).mono ?_
    rintro e w2 ⟨rfl, hb2⟩
    have hv2 := hv1.up (Up.of hb2)
    have ho2 := ho1.up (Up.of hb2)
    have hz2 : w.heap.size + 1 < w2.heap.size := Nat.lt_of_lt_of_le (Blk.lt hv1) hb2.size
    have hbe2 := stepB hb1 hb2
    obtain ⟨W3, hW3⟩ : ∃ x, w2.alloc (.cells #[.int .i64 o.ac, .int .i64 o.ad, .int .i64 0, .string ⟨#[]⟩] 44) = x := ⟨_, rfl⟩
    have hv : Blk W3 w2.heap.size 44 (va4 o.ac o.ad 0 []) := by rw [← hW3]; exact Blk.new _ _ _
    have hres : Blk W3 (w.heap.size + 1) 44 (va4 0 0 0 []) := by rw [← hW3]; exact hv2.up (Up.alloc' _ _)
    have ho3 : Blk W3 w.heap.size 30 (opC o A c).toArray := by rw [← hW3]; exact ho2.up (Up.alloc' _ _)
    have hbe : Below w.heap.size w W3 := by rw [← hW3]; exact hbe2.alloc hbe2.size _
    have HW3 := Lib.hid hW3
    obtain ⟨⟨m0, m1, m2, m3⟩, ⟨m4, m5, m6, m7, m8, m9, m10⟩, ⟨m11, m12, m13, m14⟩⟩ := ho2.opAt
    clear hW3 hv2 hb2 kW
    go_upto_region 4 with fail
    have HW3' := HW3.out
    simp only [HW3']
    clear HW3 HW3' m0 m1 m2 m3 m4 m5 m6 m7 m8 m9 m10 m11 m12 m13 m14
    obtain ⟨⟨m0, m1, m2, m3⟩, ⟨m4, m5, m6, m7, m8, m9, m10⟩, ⟨m11, m12, m13, m14⟩⟩ := ho3.opAt
    clear hbe2 hb1 ho1 hv1
    generalize w2.heap.size = B at *
    have f2 := hv.free 2
    have f3 := hv.free 3
    have c2 : W3.cell? ⟨B, 2, none⟩ = some (.int .i64 0) := by rw [hv.cell]; rfl
    have c3 : W3.cell? ⟨B, 3, none⟩ = some (.string ⟨#[]⟩) := by rw [hv.cell]; rfl
    have hv : Blk (W3.setCell ⟨B, 3, none⟩ (.string ⟨o.tx.toArray⟩)) B 44 (va4 o.ac o.ad 0 o.tx) := hv.set 3 (.string ⟨o.tx.toArray⟩)
    have hres : Blk (W3.setCell ⟨B, 3, none⟩ (.string ⟨o.tx.toArray⟩)) (w.heap.size + 1) 44 (va4 0 0 0 []) := hres.kept (grown_set _ _ _ _) (by simp; omega)
    have hbe := hbe.setCell (p := ⟨B, 3, none⟩) (by show w.heap.size ≤ B; omega) (.string ⟨o.tx.toArray⟩)
    have hv : Blk ((W3.setCell ⟨B, 3, none⟩ (.string ⟨o.tx.toArray⟩)).setCell ⟨B, 3, none⟩ (.string ⟨o.nt.toArray⟩)) B 44 (va4 o.ac o.ad 0 o.nt) := hv.set 3 (.string ⟨o.nt.toArray⟩)
    have hres : Blk ((W3.setCell ⟨B, 3, none⟩ (.string ⟨o.tx.toArray⟩)).setCell ⟨B, 3, none⟩ (.string ⟨o.nt.toArray⟩)) (w.heap.size + 1) 44 (va4 0 0 0 []) := hres.kept (grown_set _ _ _ _) (by simp; omega)
    have hbe := hbe.setCell (p := ⟨B, 3, none⟩) (by show w.heap.size ≤ B; omega) (.string ⟨o.nt.toArray⟩)
    go_upto_region 17 with fail
    refine wp_region_lit ?_
    refine wpList_loadRow rfl _ _ rfl B _ (va4 o.ac o.ad 0 o.nt) _ (by go_simp) hv Tryd.underlying44 rfl (by kernel_rfl) ?_
    refine wpList_storeRow rfl _ _ _ rfl (w.heap.size + 1) _ (va4 0 0 0 []) (va4 o.ac o.ad 0 o.nt) (by go_simp) (by go_simp) hres (by kernel_rfl) rfl (va4_one _ _ _ _) ?_
    intro W hW gW
    go_wp2_with fail
    refine bodyPost_ret (results_row1 (g := w.heap.size + 1) rfl (by go_simp) (load_row hW Tryd.underlying44 rfl (by kernel_rfl))) rfl ⟨by rw [HR.out], ?_⟩
    exact hbe.grown gW hbe.size (fun k e => by cases e; omega)

set_option maxRecDepth 100000 in
set_option maxHeartbeats 8000000 in
theorem rvalue_1 (w : World) (o : OP) (A : Option Addr) (c : Nat) (h : wrB o 1 = true) : Calls Tryd.prog 24 #[opV o A c, .int .i64 1] w (RetVal (.agg (valC o 1)) w) := by
  have kW := fun w => rwrites_is w (A := A) (c := c) h
  unfold opV opC at kW ⊢
  obtain ⟨W1, hW1⟩ : ∃ x, (w.alloc (.cells (opC o A c).toArray 30)).alloc (.cells (va4 0 0 0 []) 44) = x := ⟨_, rfl⟩
  have hb1 : Below w.heap.size w W1 := by rw [← hW1]; exact below2 _ _ _
  have ho1 : Blk W1 w.heap.size 30 (opC o A c).toArray := by rw [← hW1]; exact (Blk.new _ _ _).up (Up.alloc' _ _)
  have hv1 : Blk W1 (w.heap.size + 1) 44 (va4 0 0 0 []) := by
    rw [← hW1]; have := Blk.new (w.alloc (.cells (opC o A c).toArray 30)) 44 (va4 0 0 0 []); rw [World.size_alloc] at this; exact this
  have HW1 := Lib.hid hW1
  clear hW1
  rcases k0 : (o.kd == 0) with _ | _
  · have HR : Hid (valC o 1 = (va4 o.ac o.ad o.nn [])) := by
      have kk : ¬ o.kd = 0 := by simpa using k0
      rw [Hid, valC_yes h]; unfold vaN vaT; simp [kk]
    clear h
    go_enter Tryd.func24, Tryd.ntmps24
    go_wp2_with fail
    have HW1' := HW1.out
    unfold opC va4 at HW1'
    simp only [HW1']
    clear HW1 HW1'
    refine (kW _).mono ?_
    rintro e w2 ⟨rfl, hb2⟩
    have hv2 := hv1.up (Up.of hb2)
    have ho2 := ho1.up (Up.of hb2)
    have hz2 : w.heap.size + 1 < w2.heap.size := Nat.lt_of_lt_of_le (Blk.lt hv1) hb2.size
    have hbe2 := stepB hb1 hb2
    obtain ⟨W3, hW3⟩ : ∃ x, w2.alloc (.cells #[.int .i64 o.ac, .int .i64 o.ad, .int .i64 0, .string ⟨#[]⟩] 44) = x := ⟨_, rfl⟩
    have hv : Blk W3 w2.heap.size 44 (va4 o.ac o.ad 0 []) := by rw [← hW3]; exact Blk.new _ _ _
    have hres : Blk W3 (w.heap.size + 1) 44 (va4 0 0 0 []) := by rw [← hW3]; exact hv2.up (Up.alloc' _ _)
    have ho3 : Blk W3 w.heap.size 30 (opC o A c).toArray := by rw [← hW3]; exact ho2.up (Up.alloc' _ _)
    have hbe : Below w.heap.size w W3 := by rw [← hW3]; exact hbe2.alloc hbe2.size _
    have HW3 := Lib.hid hW3
    obtain ⟨⟨m0, m1, m2, m3⟩, ⟨m4, m5, m6, m7, m8, m9, m10⟩, ⟨m11, m12, m13, m14⟩⟩ := ho2.opAt
    clear hW3 hv2 hb2 kW
    go_upto_region 4 with fail
    have HW3' := HW3.out
    simp only [HW3']
    clear HW3 HW3' m0 m1 m2 m3 m4 m5 m6 m7 m8 m9 m10 m11 m12 m13 m14
    obtain ⟨⟨m0, m1, m2, m3⟩, ⟨m4, m5, m6, m7, m8, m9, m10⟩, ⟨m11, m12, m13, m14⟩⟩ := ho3.opAt
    clear hbe2 hb1 ho1 hv1
    generalize w2.heap.size = B at *
    have f2 := hv.free 2
    have f3 := hv.free 3
    have c2 : W3.cell? ⟨B, 2, none⟩ = some (.int .i64 0) := by rw [hv.cell]; rfl
    have c3 : W3.cell? ⟨B, 3, none⟩ = some (.string ⟨#[]⟩) := by rw [hv.cell]; rfl
    have hv : Blk (W3.setCell ⟨B, 2, none⟩ (.int .i64 o.nn)) B 44 (va4 o.ac o.ad o.nn []) := hv.set 2 (.int .i64 o.nn)
    have hres : Blk (W3.setCell ⟨B, 2, none⟩ (.int .i64 o.nn)) (w.heap.size + 1) 44 (va4 0 0 0 []) := hres.kept (grown_set _ _ _ _) (by simp; omega)
    have hbe := hbe.setCell (p := ⟨B, 2, none⟩) (by show w.heap.size ≤ B; omega) (.int .i64 o.nn)
    go_upto_region 17 with fail
    refine wp_region_lit ?_
    refine wpList_loadRow rfl _ _ rfl B _ (va4 o.ac o.ad o.nn []) _ (by go_simp) hv Tryd.underlying44 rfl (by kernel_rfl) ?_
    refine wpList_storeRow rfl _ _ _ rfl (w.heap.size + 1) _ (va4 0 0 0 []) (va4 o.ac o.ad o.nn []) (by go_simp) (by go_simp) hres (by kernel_rfl) rfl (va4_one _ _ _ _) ?_
    intro W hW gW
    go_wp2_with fail
    refine bodyPost_ret (results_row1 (g := w.heap.size + 1) rfl (by go_simp) (load_row hW Tryd.underlying44 rfl (by kernel_rfl))) rfl ⟨by rw [HR.out], ?_⟩
    exact hbe.grown gW hbe.size (fun k e => by cases e; omega)
  · have HR : Hid (valC o 1 = (va4 o.ac o.ad o.sf [])) := by
      have kk : o.kd = 0 := by simpa using k0
      rw [Hid, valC_yes h]; unfold vaN vaT; simp [kk]
    clear h
    go_enter Tryd.func24, Tryd.ntmps24
    go_wp2_with fail
    have HW1' := HW1.out
    unfold opC va4 at HW1'
    simp only [HW1']
    clear HW1 HW1'
    refine (kW _).mono ?_
    rintro e w2 ⟨rfl, hb2⟩
    have hv2 := hv1.up (Up.of hb2)
    have ho2 := ho1.up (Up.of hb2)
    have hz2 : w.heap.size + 1 < w2.heap.size := Nat.lt_of_lt_of_le (Blk.lt hv1) hb2.size
    have hbe2 := stepB hb1 hb2
    obtain ⟨W3, hW3⟩ : ∃ x, w2.alloc (.cells #[.int .i64 o.ac, .int .i64 o.ad, .int .i64 0, .string ⟨#[]⟩] 44) = x := ⟨_, rfl⟩
    have hv : Blk W3 w2.heap.size 44 (va4 o.ac o.ad 0 []) := by rw [← hW3]; exact Blk.new _ _ _
    have hres : Blk W3 (w.heap.size + 1) 44 (va4 0 0 0 []) := by rw [← hW3]; exact hv2.up (Up.alloc' _ _)
    have ho3 : Blk W3 w.heap.size 30 (opC o A c).toArray := by rw [← hW3]; exact ho2.up (Up.alloc' _ _)
    have hbe : Below w.heap.size w W3 := by rw [← hW3]; exact hbe2.alloc hbe2.size _
    have HW3 := Lib.hid hW3
    obtain ⟨⟨m0, m1, m2, m3⟩, ⟨m4, m5, m6, m7, m8, m9, m10⟩, ⟨m11, m12, m13, m14⟩⟩ := ho2.opAt
    clear hW3 hv2 hb2 kW
    go_upto_region 4 with fail
    have HW3' := HW3.out
    simp only [HW3']
    clear HW3 HW3' m0 m1 m2 m3 m4 m5 m6 m7 m8 m9 m10 m11 m12 m13 m14
    obtain ⟨⟨m0, m1, m2, m3⟩, ⟨m4, m5, m6, m7, m8, m9, m10⟩, ⟨m11, m12, m13, m14⟩⟩ := ho3.opAt
    clear hbe2 hb1 ho1 hv1
    generalize w2.heap.size = B at *
    have f2 := hv.free 2
    have f3 := hv.free 3
    have c2 : W3.cell? ⟨B, 2, none⟩ = some (.int .i64 0) := by rw [hv.cell]; rfl
    have c3 : W3.cell? ⟨B, 3, none⟩ = some (.string ⟨#[]⟩) := by rw [hv.cell]; rfl
    have hv : Blk (W3.setCell ⟨B, 2, none⟩ (.int .i64 o.nn)) B 44 (va4 o.ac o.ad o.nn []) := hv.set 2 (.int .i64 o.nn)
    have hres : Blk (W3.setCell ⟨B, 2, none⟩ (.int .i64 o.nn)) (w.heap.size + 1) 44 (va4 0 0 0 []) := hres.kept (grown_set _ _ _ _) (by simp; omega)
    have hbe := hbe.setCell (p := ⟨B, 2, none⟩) (by show w.heap.size ≤ B; omega) (.int .i64 o.nn)
    have hv : Blk ((W3.setCell ⟨B, 2, none⟩ (.int .i64 o.nn)).setCell ⟨B, 2, none⟩ (.int .i64 o.sf)) B 44 (va4 o.ac o.ad o.sf []) := hv.set 2 (.int .i64 o.sf)
    have hres : Blk ((W3.setCell ⟨B, 2, none⟩ (.int .i64 o.nn)).setCell ⟨B, 2, none⟩ (.int .i64 o.sf)) (w.heap.size + 1) 44 (va4 0 0 0 []) := hres.kept (grown_set _ _ _ _) (by simp; omega)
    have hbe := hbe.setCell (p := ⟨B, 2, none⟩) (by show w.heap.size ≤ B; omega) (.int .i64 o.sf)
    go_upto_region 17 with fail
    refine wp_region_lit ?_
    refine wpList_loadRow rfl _ _ rfl B _ (va4 o.ac o.ad o.sf []) _ (by go_simp) hv Tryd.underlying44 rfl (by kernel_rfl) ?_
    refine wpList_storeRow rfl _ _ _ rfl (w.heap.size + 1) _ (va4 0 0 0 []) (va4 o.ac o.ad o.sf []) (by go_simp) (by go_simp) hres (by kernel_rfl) rfl (va4_one _ _ _ _) ?_
    intro W hW gW
    go_wp2_with fail
    refine bodyPost_ret (results_row1 (g := w.heap.size + 1) rfl (by go_simp) (load_row hW Tryd.underlying44 rfl (by kernel_rfl))) rfl ⟨by rw [HR.out], ?_⟩
    exact hbe.grown gW hbe.size (fun k e => by cases e; omega)

set_option maxRecDepth 100000 in
set_option maxHeartbeats 8000000 in
theorem rvalue_2 (w : World) (o : OP) (A : Option Addr) (c : Nat) (h : wrB o 2 = true) : Calls Tryd.prog 24 #[opV o A c, .int .i64 2] w (RetVal (.agg (valC o 2)) w) := by
  have kW := fun w => rwrites_is w (A := A) (c := c) h
  unfold opV opC at kW ⊢
  obtain ⟨W1, hW1⟩ : ∃ x, (w.alloc (.cells (opC o A c).toArray 30)).alloc (.cells (va4 0 0 0 []) 44) = x := ⟨_, rfl⟩
  have hb1 : Below w.heap.size w W1 := by rw [← hW1]; exact below2 _ _ _
  have ho1 : Blk W1 w.heap.size 30 (opC o A c).toArray := by rw [← hW1]; exact (Blk.new _ _ _).up (Up.alloc' _ _)
  have hv1 : Blk W1 (w.heap.size + 1) 44 (va4 0 0 0 []) := by
    rw [← hW1]; have := Blk.new (w.alloc (.cells (opC o A c).toArray 30)) 44 (va4 0 0 0 []); rw [World.size_alloc] at this; exact this
  have HW1 := Lib.hid hW1
  clear hW1
  rcases k0 : (o.kd == 0) with _ | _
  · have HR : Hid (valC o 2 = (va4 o.ac o.ad o.nn [])) := by
      have kk : ¬ o.kd = 0 := by simpa using k0
      rw [Hid, valC_yes h]; unfold vaN vaT; simp [kk]
    clear h
    go_enter Tryd.func24, Tryd.ntmps24
    go_wp2_with fail
    have HW1' := HW1.out
    unfold opC va4 at HW1'
    simp only [HW1']
    clear HW1 HW1'
    refine (kW _).mono ?_
    rintro e w2 ⟨rfl, hb2⟩
    have hv2 := hv1.up (Up.of hb2)
    have ho2 := ho1.up (Up.of hb2)
    have hz2 : w.heap.size + 1 < w2.heap.size := Nat.lt_of_lt_of_le (Blk.lt hv1) hb2.size
    have hbe2 := stepB hb1 hb2
    obtain ⟨W3, hW3⟩ : ∃ x, w2.alloc (.cells #[.int .i64 o.ac, .int .i64 o.ad, .int .i64 0, .string ⟨#[]⟩] 44) = x := ⟨_, rfl⟩
    have hv : Blk W3 w2.heap.size 44 (va4 o.ac o.ad 0 []) := by rw [← hW3]; exact Blk.new _ _ _
    have hres : Blk W3 (w.heap.size + 1) 44 (va4 0 0 0 []) := by rw [← hW3]; exact hv2.up (Up.alloc' _ _)
    have ho3 : Blk W3 w.heap.size 30 (opC o A c).toArray := by rw [← hW3]; exact ho2.up (Up.alloc' _ _)
    have hbe : Below w.heap.size w W3 := by rw [← hW3]; exact hbe2.alloc hbe2.size _
    have HW3 := Lib.hid hW3
    obtain ⟨⟨m0, m1, m2, m3⟩, ⟨m4, m5, m6, m7, m8, m9, m10⟩, ⟨m11, m12, m13, m14⟩⟩ := ho2.opAt
    clear hW3 hv2 hb2 kW
    go_upto_region 4 with fail
    have HW3' := HW3.out
    simp only [HW3']
    clear HW3 HW3' m0 m1 m2 m3 m4 m5 m6 m7 m8 m9 m10 m11 m12 m13 m14
    obtain ⟨⟨m0, m1, m2, m3⟩, ⟨m4, m5, m6, m7, m8, m9, m10⟩, ⟨m11, m12, m13, m14⟩⟩ := ho3.opAt
    clear hbe2 hb1 ho1 hv1
    generalize w2.heap.size = B at *
    have f2 := hv.free 2
    have f3 := hv.free 3
    have c2 : W3.cell? ⟨B, 2, none⟩ = some (.int .i64 0) := by rw [hv.cell]; rfl
    have c3 : W3.cell? ⟨B, 3, none⟩ = some (.string ⟨#[]⟩) := by rw [hv.cell]; rfl
    have hv : Blk (W3.setCell ⟨B, 2, none⟩ (.int .i64 o.nn)) B 44 (va4 o.ac o.ad o.nn []) := hv.set 2 (.int .i64 o.nn)
    have hres : Blk (W3.setCell ⟨B, 2, none⟩ (.int .i64 o.nn)) (w.heap.size + 1) 44 (va4 0 0 0 []) := hres.kept (grown_set _ _ _ _) (by simp; omega)
    have hbe := hbe.setCell (p := ⟨B, 2, none⟩) (by show w.heap.size ≤ B; omega) (.int .i64 o.nn)
    go_upto_region 17 with fail
    refine wp_region_lit ?_
    refine wpList_loadRow rfl _ _ rfl B _ (va4 o.ac o.ad o.nn []) _ (by go_simp) hv Tryd.underlying44 rfl (by kernel_rfl) ?_
    refine wpList_storeRow rfl _ _ _ rfl (w.heap.size + 1) _ (va4 0 0 0 []) (va4 o.ac o.ad o.nn []) (by go_simp) (by go_simp) hres (by kernel_rfl) rfl (va4_one _ _ _ _) ?_
    intro W hW gW
    go_wp2_with fail
    refine bodyPost_ret (results_row1 (g := w.heap.size + 1) rfl (by go_simp) (load_row hW Tryd.underlying44 rfl (by kernel_rfl))) rfl ⟨by rw [HR.out], ?_⟩
    exact hbe.grown gW hbe.size (fun k e => by cases e; omega)
  · have HR : Hid (valC o 2 = (va4 o.ac o.ad o.st [])) := by
      have kk : o.kd = 0 := by simpa using k0
      rw [Hid, valC_yes h]; unfold vaN vaT; simp [kk]
    clear h
    go_enter Tryd.func24, Tryd.ntmps24
    go_wp2_with fail
    have HW1' := HW1.out
    unfold opC va4 at HW1'
    simp only [HW1']
    clear HW1 HW1'
    refine (kW _).mono ?_
    rintro e w2 ⟨rfl, hb2⟩
    have hv2 := hv1.up (Up.of hb2)
    have ho2 := ho1.up (Up.of hb2)
    have hz2 : w.heap.size + 1 < w2.heap.size := Nat.lt_of_lt_of_le (Blk.lt hv1) hb2.size
    have hbe2 := stepB hb1 hb2
    obtain ⟨W3, hW3⟩ : ∃ x, w2.alloc (.cells #[.int .i64 o.ac, .int .i64 o.ad, .int .i64 0, .string ⟨#[]⟩] 44) = x := ⟨_, rfl⟩
    have hv : Blk W3 w2.heap.size 44 (va4 o.ac o.ad 0 []) := by rw [← hW3]; exact Blk.new _ _ _
    have hres : Blk W3 (w.heap.size + 1) 44 (va4 0 0 0 []) := by rw [← hW3]; exact hv2.up (Up.alloc' _ _)
    have ho3 : Blk W3 w.heap.size 30 (opC o A c).toArray := by rw [← hW3]; exact ho2.up (Up.alloc' _ _)
    have hbe : Below w.heap.size w W3 := by rw [← hW3]; exact hbe2.alloc hbe2.size _
    have HW3 := Lib.hid hW3
    obtain ⟨⟨m0, m1, m2, m3⟩, ⟨m4, m5, m6, m7, m8, m9, m10⟩, ⟨m11, m12, m13, m14⟩⟩ := ho2.opAt
    clear hW3 hv2 hb2 kW
    go_upto_region 4 with fail
    have HW3' := HW3.out
    simp only [HW3']
    clear HW3 HW3' m0 m1 m2 m3 m4 m5 m6 m7 m8 m9 m10 m11 m12 m13 m14
    obtain ⟨⟨m0, m1, m2, m3⟩, ⟨m4, m5, m6, m7, m8, m9, m10⟩, ⟨m11, m12, m13, m14⟩⟩ := ho3.opAt
    clear hbe2 hb1 ho1 hv1
    generalize w2.heap.size = B at *
    have f2 := hv.free 2
    have f3 := hv.free 3
    have c2 : W3.cell? ⟨B, 2, none⟩ = some (.int .i64 0) := by rw [hv.cell]; rfl
    have c3 : W3.cell? ⟨B, 3, none⟩ = some (.string ⟨#[]⟩) := by rw [hv.cell]; rfl
    have hv : Blk (W3.setCell ⟨B, 2, none⟩ (.int .i64 o.nn)) B 44 (va4 o.ac o.ad o.nn []) := hv.set 2 (.int .i64 o.nn)
    have hres : Blk (W3.setCell ⟨B, 2, none⟩ (.int .i64 o.nn)) (w.heap.size + 1) 44 (va4 0 0 0 []) := hres.kept (grown_set _ _ _ _) (by simp; omega)
    have hbe := hbe.setCell (p := ⟨B, 2, none⟩) (by show w.heap.size ≤ B; omega) (.int .i64 o.nn)
    have hv : Blk ((W3.setCell ⟨B, 2, none⟩ (.int .i64 o.nn)).setCell ⟨B, 2, none⟩ (.int .i64 o.st)) B 44 (va4 o.ac o.ad o.st []) := hv.set 2 (.int .i64 o.st)
    have hres : Blk ((W3.setCell ⟨B, 2, none⟩ (.int .i64 o.nn)).setCell ⟨B, 2, none⟩ (.int .i64 o.st)) (w.heap.size + 1) 44 (va4 0 0 0 []) := hres.kept (grown_set _ _ _ _) (by simp; omega)
    have hbe := hbe.setCell (p := ⟨B, 2, none⟩) (by show w.heap.size ≤ B; omega) (.int .i64 o.st)
    go_upto_region 17 with fail
    refine wp_region_lit ?_
    refine wpList_loadRow rfl _ _ rfl B _ (va4 o.ac o.ad o.st []) _ (by go_simp) hv Tryd.underlying44 rfl (by kernel_rfl) ?_
    refine wpList_storeRow rfl _ _ _ rfl (w.heap.size + 1) _ (va4 0 0 0 []) (va4 o.ac o.ad o.st []) (by go_simp) (by go_simp) hres (by kernel_rfl) rfl (va4_one _ _ _ _) ?_
    intro W hW gW
    go_wp2_with fail
    refine bodyPost_ret (results_row1 (g := w.heap.size + 1) rfl (by go_simp) (load_row hW Tryd.underlying44 rfl (by kernel_rfl))) rfl ⟨by rw [HR.out], ?_⟩
    exact hbe.grown gW hbe.size (fun k e => by cases e; omega)
theorem rvalue_any (w : World) (o : OP) (A : Option Addr) (c : Nat) (f : Int) : Calls Tryd.prog 24 #[opV o A c, .int .i64 f] w (RetVal (.agg (valC o f)) w) := by
  rcases h : wrB o f with _ | _
  · exact rvalue_no w o A c f h
  · rcases (wr_cases h) with rfl | rfl | rfl
    · exact rvalue_0 w o A c h
    · exact rvalue_1 w o A c h
    · exact rvalue_2 w o A c h

end Go.Proofs.YtfjiikcbcoohdaaDoor
