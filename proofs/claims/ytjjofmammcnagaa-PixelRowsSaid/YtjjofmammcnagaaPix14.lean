/- The walk of PixelPacks. Conditions: each theorem's own premises. -/
import Derived.Test.YtjjofmammcnagaaPix13
namespace Go.Proofs.Ytjjofmammcnagaa
open Go.RowKit
set_option linter.unusedVariables false

set_option maxHeartbeats 2000000 in
set_option maxRecDepth 20000 in
theorem packs_walk (n c0 c1 c2 c3 : Int) (w : World) (hcb : ∀ x ∈ [c0, c1, c2, c3], -2147483648 ≤ x ∧ x ≤ 2147483647) : Calls Try.prog 4 #[.int .i64 n, .agg #[.int .i32 c0, .int .i32 c1, .int .i32 c2, .int .i32 c3]] w fun e w' => e = .returned (.bool true) ∧ Ext w w' := by
  have HS := Lib.hid (fun w => Size_any n w)
  have HZ := Lib.hid (fun w => refSize_any n w)
  by_cases hbad : n < 1 ∨ 8 ≤ n
  · have HP : Hid (∀ w, Calls Try.prog 13 #[.int .i64 n, .agg #[.int .i32 c0, .int .i32 c1, .int .i32 c2, .int .i32 c3]] w fun e w' => e = .returned (.tuple #[.slice none 0 0, .int .i64 2]) ∧ Ext w w') := fun w => pack_bad n [c0, c1, c2, c3] w hbad
    have hz : szV n = 0 := by unfold szV; rw [if_neg (by omega), if_neg (by omega), if_neg (by omega)]
    rw [hz] at HS HZ
    clear hz hbad hcb
    go_enter Try.func4, Try.ntmps4
    go_wp2_with (first | (go_at_call 9; refine (wakes_any _).mono ?_; rintro e w1 ⟨rfl, hx1⟩; have hc1 := hx1.heap (heap_alloc_new _ _); have k0 : w1.cell? ⟨w.heap.size, 0, none⟩ = some (.int .i32 c0) := cell_of_heap hc1 rfl; have k1 : w1.cell? ⟨w.heap.size, 1, none⟩ = some (.int .i32 c1) := cell_of_heap hc1 rfl; have k2 : w1.cell? ⟨w.heap.size, 2, none⟩ = some (.int .i32 c2) := cell_of_heap hc1 rfl; have k3 : w1.cell? ⟨w.heap.size, 3, none⟩ = some (.int .i32 c3) := cell_of_heap hc1 rfl) | (go_at_call 13; refine (HP.out _).mono ?_; rintro e w2 ⟨rfl, hx2⟩; have k10 := hx2.cell k0; have k11 := hx2.cell k1; have k12 := hx2.cell k2; have k13 := hx2.cell k3) | (go_at_call 14; refine (HS.out _).mono ?_; rintro e w3 ⟨rfl, hx3⟩; have k20 := hx3.cell k10; have k21 := hx3.cell k11; have k22 := hx3.cell k12; have k23 := hx3.cell k13) | (go_at_call 11; refine (HZ.out _).mono ?_; rintro e w4 ⟨rfl, rfl⟩))
    go_ret
    exact ⟨rfl, (((Ext.refl w).alloc _).trans hx1).trans (hx2.trans hx3)⟩
  · obtain ⟨m, rfl⟩ := Int.eq_ofNat_of_zero_le (show 0 ≤ n by omega)
    have h1 : 1 ≤ m := by omega
    have h7 : m ≤ 7 := by omega
    have HP : Hid (∀ w, Calls Try.prog 13 #[.int .i64 (m : Int), .agg #[.int .i32 c0, .int .i32 c1, .int .i32 c2, .int .i32 c3]] w fun e w' => ∃ a cap, e = .returned (.tuple #[.slice a (szN m) cap, .int .i64 0]) ∧ Ints .u8 w' (.slice a (szN m) cap) (lowB (packX m [c0, c1, c2, c3]) (szN m)) ∧ Ext w w') := fun w => pack_any m [c0, c1, c2, c3] w h1 h7 rfl hcb
    have HR : Hid (∀ w, Calls Try.prog 16 #[.int .i64 (m : Int), .agg #[.int .i32 c0, .int .i32 c1, .int .i32 c2, .int .i32 c3]] w fun e w' => ∃ a cap, e = .returned (.slice a (szN m) cap) ∧ Ints .u8 w' (.slice a (szN m) cap) (lowB (packX m [c0, c1, c2, c3]) (szN m)) ∧ Ext w w') := fun w => refpack_any m [c0, c1, c2, c3] w h1 h7 rfl hcb
    have hs0 := szN_bd m
    rw [szN_V m h1 h7] at HS HZ
    have hz0 : ((szN m : Int) == 0) = false := by simp; omega
    generalize lowB (packX m [c0, c1, c2, c3]) (szN m) = B at *
    generalize szN m = S at *
    clear hbad hcb hs0
    go_enter Try.func4, Try.ntmps4
    go_wp2_with (first | (go_at_call 9; refine (wakes_any _).mono ?_; rintro e w1 ⟨rfl, hx1⟩; have hc1 := hx1.heap (heap_alloc_new _ _); have k0 : w1.cell? ⟨w.heap.size, 0, none⟩ = some (.int .i32 c0) := cell_of_heap hc1 rfl; have k1 : w1.cell? ⟨w.heap.size, 1, none⟩ = some (.int .i32 c1) := cell_of_heap hc1 rfl; have k2 : w1.cell? ⟨w.heap.size, 2, none⟩ = some (.int .i32 c2) := cell_of_heap hc1 rfl; have k3 : w1.cell? ⟨w.heap.size, 3, none⟩ = some (.int .i32 c3) := cell_of_heap hc1 rfl) | (go_at_call 13; refine (HP.out _).mono ?_; rintro e w2 ⟨a2, cap2, rfl, hi2, hx2⟩; have k10 := hx2.cell k0; have k11 := hx2.cell k1; have k12 := hx2.cell k2; have k13 := hx2.cell k3) | (go_at_call 14; refine (HS.out _).mono ?_; rintro e w3 ⟨rfl, hx3⟩; have k20 := hx3.cell k10; have k21 := hx3.cell k11; have k22 := hx3.cell k12; have k23 := hx3.cell k13) | (go_at_call 11; refine (HZ.out _).mono ?_; rintro e w4 ⟨rfl, rfl⟩) | (go_at_call 16; refine (HR.out _).mono ?_; rintro e w5 ⟨a5, cap5, rfl, hi5, hx5⟩; have hi6 := (hi2.ext hx3).ext hx5) | (go_at_call 15; refine (same_any _ _ _ _ _ hi6 hi5).mono ?_; rintro e w6 ⟨rfl, hx6⟩))
    go_ret
    exact ⟨by simp, (((Ext.refl w).alloc _).trans hx1).trans (((hx2.trans hx3).trans hx5).trans hx6)⟩

theorem packs_arg (W : World) (v0 v1 : Value) (h0 : ArgIs Try.prog W 3 v0) (h1 : ArgIs Try.prog W 26 v1) : Calls Try.prog 4 #[v0, v1] W fun e w' => e = .returned (.bool true) ∧ Ext W w' := by
  obtain ⟨n, rfl, _⟩ := h0.int Try.underlying3
  obtain ⟨cs, rfl, hf⟩ := h1.agg 5 (ls := [.int .i32, .int .i32, .int .i32, .int .i32]) (by kernel_rfl) (by kernel_rfl) (by kernel_rfl)
  obtain ⟨u, us, rfl, ⟨a, rfl, ha⟩, k2⟩ := hf.cons_inv
  obtain ⟨u, us, rfl, ⟨b, rfl, hb⟩, k3⟩ := k2.cons_inv
  obtain ⟨u, us, rfl, ⟨c, rfl, hc⟩, k4⟩ := k3.cons_inv
  obtain ⟨u, us, rfl, ⟨d, rfl, hd⟩, k5⟩ := k4.cons_inv
  have := k5.nil_inv
  subst this
  exact packs_walk n a b c d W (by
    intro x hx
    simp only [List.mem_cons, List.not_mem_nil, or_false] at hx
    rcases hx with rfl | rfl | rfl | rfl
    · exact i32_of_wf ha
    · exact i32_of_wf hb
    · exact i32_of_wf hc
    · exact i32_of_wf hd)
end Go.Proofs.Ytjjofmammcnagaa
