/- The walk of BinsTiles. Conditions: each theorem's own premises. -/
import Derived.Test.YtocdkdkiiammfaaBin2
namespace Go.Proofs.Ytocdkdkiiammfaa
open Go.RowKit
set_option linter.unusedVariables false
set_option maxRecDepth 100000

theorem right_any (a b : Int) (w : World) : Calls Try.prog 7 #[.int .i64 a, .int .i64 b] w fun e w' => e = .returned (.bool (sidesOk a b)) ∧ w = w' := by
  unfold sidesOk
  by_cases h1 : 1 ≤ a
  · by_cases h2 : a ≤ 64
    · by_cases h3 : 1 ≤ b
      · by_cases h4 : b ≤ 64
        all_goals
          go_enter Try.func7, Try.ntmps7
          go_wp2
          go_ret
          exact ⟨by first | (simp; done) | (simp; omega), rfl⟩
      · go_enter Try.func7, Try.ntmps7
        go_wp2
        go_ret
        exact ⟨by first | (simp; done) | (simp; omega), rfl⟩
    · go_enter Try.func7, Try.ntmps7
      go_wp2
      go_ret
      exact ⟨by first | (simp; done) | (simp; omega), rfl⟩
  · go_enter Try.func7, Try.ntmps7
    go_wp2
    go_ret
    exact ⟨by first | (simp; done) | (simp; omega), rfl⟩
set_option maxRecDepth 100000 in
set_option maxHeartbeats 2000000 in
theorem tiles_walk (a b x y : Int) (w : World) : Calls Try.prog 3 #[.agg #[.int .i64 a, .int .i64 b], .int .i64 x, .int .i64 y] w fun e w' => e = .returned (.bool true) ∧ Ext w w' := by
  obtain ⟨w0, hw0, ha, hx0⟩ : ∃ w0, w.alloc (.cells #[.int .i64 a, .int .i64 b] 23) = w0 ∧ w0.heap[w.heap.size]? = some (.cells #[.int .i64 a, .int .i64 b] 23 (0, 0)) ∧ Ext w w0 := ⟨_, rfl, heap_alloc_new _ _, (Ext.refl _).alloc _⟩
  have HW0 := Lib.hid hw0
  have HA := Lib.hid ha
  have HX0 := Lib.hid hx0
  clear hw0 ha hx0
  cases hs : sidesOk a b
  · have HNB := Lib.hid (fun w => new_bad a b hs w)
    have HRR : Hid (∀ w, Calls Try.prog 7 #[.int .i64 a, .int .i64 b] w fun e w' => e = .returned (.bool false) ∧ w = w') := Lib.hid (fun w => by have := right_any a b w; rw [hs] at this; exact this)
    clear hs
    go_enter Try.func3, Try.ntmps3
    go_upto_region 1 with fail
    rw [HW0.out]
    generalize w.heap.size = b0 at *
    clear HW0
    go_wp2_with (first | (go_at_call 5; refine (wakes_any _).mono ?_; rintro _ w1 ⟨rfl, hx1⟩; have c0 : w1.cell? ⟨b0, 0, none⟩ = some (.int .i64 a) := cell_of_heap (hx1.heap HA.out) rfl; have c1 : w1.cell? ⟨b0, 1, none⟩ = some (.int .i64 b) := cell_of_heap (hx1.heap HA.out) rfl; have n1 := heap_lt (hx1.heap HA.out); have HX1 := Lib.hid (HX0.out.trans hx1); clear hx1) | (go_at_call 6; refine (HNB.out _).mono ?_; rintro _ _ ⟨rfl, rfl⟩) | (go_at_call 7; refine (HRR.out _).mono ?_; rintro _ _ ⟨rfl, rfl⟩))
    go_ret
    exact ⟨rfl, HX1.out⟩
  · have hh : 1 ≤ a ∧ a ≤ 64 ∧ 1 ≤ b ∧ b ≤ 64 := by unfold sidesOk at hs; simpa using hs
    obtain ⟨W, rfl⟩ : ∃ W : Nat, a = W := ⟨a.toNat, by omega⟩
    obtain ⟨H, rfl⟩ : ∃ H : Nat, b = H := ⟨b.toNat, by omega⟩
    have HRR : Hid (∀ w, Calls Try.prog 7 #[.int .i64 (W : Int), .int .i64 (H : Int)] w fun e w' => e = .returned (.bool true) ∧ w = w') := Lib.hid (fun w => by have := right_any W H w; rw [hs] at this; exact this)
    have HNW := Lib.hid (fun w => new_any W H (by omega) (by omega) (by omega) (by omega) w)
    have HWH := Lib.hid (show W ≤ 64 ∧ H ≤ 64 by omega)
    clear hs
    cases hi : inB W H x y
    · have HT : Hid (∀ (p : Nat) (sl : Value) (n : Int) (w : World), BAt w p W H sl n → Calls Try.prog 8 #[.pointer (some ⟨p, 0, none⟩), .int .i64 x, .int .i64 y] w fun e w' => e = .returned (.tuple #[.int .i64 0, .int .i64 2]) ∧ w = w') := Lib.hid (fun p sl n w hb => by have := tile_any p W H sl n x y w hb HWH.out.1 HWH.out.2; rw [hi] at this; exact this)
      have HTR : Hid (∀ (w : World), Calls Try.prog 9 #[.int .i64 (W : Int), .int .i64 (H : Int), .int .i64 x, .int .i64 y] w fun e w' => e = .returned (.int .i64 (-1)) ∧ w = w') := Lib.hid (fun w => by have := rtile_any W H x y w HWH.out.1 HWH.out.2; rw [hi] at this; exact this)
      clear hi hh
      go_enter Try.func3, Try.ntmps3
      go_upto_region 1 with fail
      rw [HW0.out]
      generalize w.heap.size = b0 at *
      clear HW0
      go_wp2_with (first | (go_at_call 5; refine (wakes_any _).mono ?_; rintro _ w1 ⟨rfl, hx1⟩; have c0 : w1.cell? ⟨b0, 0, none⟩ = some (.int .i64 W) := cell_of_heap (hx1.heap HA.out) rfl; have c1 : w1.cell? ⟨b0, 1, none⟩ = some (.int .i64 H) := cell_of_heap (hx1.heap HA.out) rfl; have n1 := heap_lt (hx1.heap HA.out); have HA1 := Lib.hid (hx1.heap HA.out); have HX1 := Lib.hid (HX0.out.trans hx1); clear hx1) | (go_at_call 6; refine (HNW.out _).mono ?_; rintro _ w2 ⟨p, g, rfl, _, _, hb, _, hx2⟩; have d0 : w2.cell? ⟨b0, 0, none⟩ = some (.int .i64 W) := cell_of_heap (hx2.heap HA1.out) rfl; have d1 : w2.cell? ⟨b0, 1, none⟩ = some (.int .i64 H) := cell_of_heap (hx2.heap HA1.out) rfl; have n2 := heap_lt (hx2.heap HA1.out); have HB := Lib.hid hb; have HX2 := Lib.hid (HX1.out.trans hx2); clear hb hx2) | (go_at_call 7; refine (HRR.out _).mono ?_; rintro _ _ ⟨rfl, rfl⟩) | (go_at_call 8; refine (HT.out _ _ _ _ HB.out).mono ?_; rintro _ _ ⟨rfl, rfl⟩) | (go_at_call 9; refine (HTR.out _).mono ?_; rintro _ _ ⟨rfl, rfl⟩))
      go_ret
      exact ⟨rfl, HX2.out⟩
    · obtain ⟨T, hT⟩ : ∃ T, tlV W x y = T := ⟨_, rfl⟩
      obtain ⟨i1, i2, i3, i4⟩ := inB_true hi
      have hT0 : 0 ≤ T := by rw [← hT]; exact (tile_in W x y i1 (by omega) i3 (by omega) HWH.out.1).1
      have HT : Hid (∀ (p : Nat) (sl : Value) (n : Int) (w : World), BAt w p W H sl n → Calls Try.prog 8 #[.pointer (some ⟨p, 0, none⟩), .int .i64 x, .int .i64 y] w fun e w' => e = .returned (.tuple #[.int .i64 T, .int .i64 0]) ∧ w = w') := Lib.hid (fun p sl n w hb => by have := tile_any p W H sl n x y w hb HWH.out.1 HWH.out.2; rw [hi, hT] at this; exact this)
      have HTR : Hid (∀ (w : World), Calls Try.prog 9 #[.int .i64 (W : Int), .int .i64 (H : Int), .int .i64 x, .int .i64 y] w fun e w' => e = .returned (.int .i64 T) ∧ w = w') := Lib.hid (fun w => by have := rtile_any W H x y w HWH.out.1 HWH.out.2; rw [hi, hT] at this; exact this)
      clear hi hh hT i1 i2 i3 i4
      go_enter Try.func3, Try.ntmps3
      go_upto_region 1 with fail
      rw [HW0.out]
      generalize w.heap.size = b0 at *
      clear HW0
      go_wp2_with (first | (go_at_call 5; refine (wakes_any _).mono ?_; rintro _ w1 ⟨rfl, hx1⟩; have c0 : w1.cell? ⟨b0, 0, none⟩ = some (.int .i64 W) := cell_of_heap (hx1.heap HA.out) rfl; have c1 : w1.cell? ⟨b0, 1, none⟩ = some (.int .i64 H) := cell_of_heap (hx1.heap HA.out) rfl; have n1 := heap_lt (hx1.heap HA.out); have HA1 := Lib.hid (hx1.heap HA.out); have HX1 := Lib.hid (HX0.out.trans hx1); clear hx1) | (go_at_call 6; refine (HNW.out _).mono ?_; rintro _ w2 ⟨p, g, rfl, _, _, hb, _, hx2⟩; have d0 : w2.cell? ⟨b0, 0, none⟩ = some (.int .i64 W) := cell_of_heap (hx2.heap HA1.out) rfl; have d1 : w2.cell? ⟨b0, 1, none⟩ = some (.int .i64 H) := cell_of_heap (hx2.heap HA1.out) rfl; have n2 := heap_lt (hx2.heap HA1.out); have HB := Lib.hid hb; have HX2 := Lib.hid (HX1.out.trans hx2); clear hb hx2) | (go_at_call 7; refine (HRR.out _).mono ?_; rintro _ _ ⟨rfl, rfl⟩) | (go_at_call 8; refine (HT.out _ _ _ _ HB.out).mono ?_; rintro _ _ ⟨rfl, rfl⟩) | (go_at_call 9; refine (HTR.out _).mono ?_; rintro _ _ ⟨rfl, rfl⟩))
      go_ret
      exact ⟨rfl, HX2.out⟩
theorem tiles_arg (W : World) (v0 v1 v2 : Value) (h0 : ArgIs Try.prog W 23 v0) (h1 : ArgIs Try.prog W 3 v1) (h2 : ArgIs Try.prog W 3 v2) : Calls Try.prog 3 #[v0, v1, v2] W fun e w' => e = .returned (.bool true) ∧ Ext W w' := by
  obtain ⟨cs, rfl, g0⟩ := h0.agg 3 (ls := [.int .i64, .int .i64]) rfl rfl rfl
  obtain ⟨u0, us, rfl, ⟨a, rfl, _⟩, g1⟩ := g0.cons_inv
  obtain ⟨u1, us, rfl, ⟨b, rfl, _⟩, g2⟩ := g1.cons_inv
  obtain rfl := g2.nil_inv
  obtain ⟨x, rfl, _⟩ := h1.int Try.underlying3
  obtain ⟨y, rfl, _⟩ := h2.int Try.underlying3
  exact tiles_walk a b x y W
end Go.Proofs.Ytocdkdkiiammfaa
