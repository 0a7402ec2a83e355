/- The walk of OpsMix; OpsTurn and OpsMix at their arguments. Conditions: each theorem's own premises. -/
import Derived.Test.YtagjjgookiodbaaOps22
namespace Go.Proofs.Ytagjjgookiodbaa
open Go.RowKit
set_option linter.unusedVariables false
set_option linter.unusedSimpArgs false
attribute [local go_sem ↓] Ld_V4 St_V4 Ld_St
attribute [local go_sem] eqV eqVz

theorem turn_arg (W : World) (v0 v1 v2 : Value) (h0 : ArgIs Try.prog W 54 v0) (h1 : ArgIs Try.prog W 2 v1) (h2 : ArgIs Try.prog W 2 v2) : Calls Try.prog 5 #[v0, v1, v2] W fun e w' => e = .returned (.bool true) ∧ Ext W w' := by
  obtain ⟨t, rfl⟩ := turnIn h0
  obtain ⟨a, rfl, _⟩ := h1.int Try.underlying2
  obtain ⟨b, rfl, _⟩ := h2.int Try.underlying2
  exact turn_walk t a b W

set_option maxHeartbeats 4000000 in
theorem mix_walk (s : St) (color old : V4) (w : World) : Calls Try.prog 4 #[.agg s.C.toArray, .agg color.C.toArray, .agg old.C.toArray] w fun e w' => e = .returned (.bool true) ∧ Ext w w' := by
  obtain ⟨w3, hw3, hs, hc, ho, hx⟩ := heap_three w (.cells s.C.toArray 33) (.cells color.C.toArray 30) (.cells old.C.toArray 30)
  have HW := Lib.hid hw3
  clear hw3
  obtain ⟨M, hM⟩ : ∃ M, mixR s color old = M := ⟨_, rfl⟩
  have HMIX : ∀ w, Calls Try.prog 15 #[.agg s.C.toArray, .agg color.C.toArray, .agg old.C.toArray] w fun e w' => e = .returned (.agg M.C.toArray) ∧ Ext w w' := fun w => by rw [← hM]; exact mix_any s color old w
  have HM1 := Lib.hid HMIX
  have HMM := Lib.hid hM
  clear HMIX hM
  go_enter Try.func4, Try.ntmps4
  go_upto_region 1 with fail
  rw [HW.out]
  generalize hb0 : w.heap.size = b0 at *
  clear hb0
  go_upto_region 3 with (go_at_call 10; refine (wakes_any _).mono ?_; rintro _ w4 ⟨rfl, hx4⟩)
  have HS := Lib.hid (StAt.ext (s := s) hs hx4)
  have HC := Lib.hid (VAt.ext (v := color) hc hx4)
  have HO := Lib.hid (VAt.ext (v := old) ho hx4)
  have HX := Lib.hid (hx.trans hx4)
  clear hs hc ho hx hx4 HW
  have l1 := HS.out.load
  have l2 := HC.out.load2
  have l3 := HO.out.load2
  have n1 := heap_lt HS.out
  have n2 := heap_lt HC.out
  have n3 := heap_lt HO.out
  go_upto_region 4 with (go_at_call 15; refine (HM1.out _).mono ?_; rintro _ w5 ⟨rfl, hx5⟩; obtain ⟨w6, hst, h6, hx6⟩ := newV w5 M; have HM6 := Lib.hid h6; have HX6 := Lib.hid (hx5.trans hx6); clear h6 hx5 hx6)
  clear hst l1 l2 l3 n1 n2 n3
  generalize w5.heap.size = bm at *
  have HS6 := Lib.hid (HS.out.ext HX6.out)
  have HC6 := Lib.hid (HC.out.ext HX6.out)
  have HO6 := Lib.hid (HO.out.ext HX6.out)
  have HXA := Lib.hid (HX.out.trans HX6.out)
  clear HS HC HO HX HX6
  have l1 := HS6.out.load
  have n1 := heap_lt HS6.out
  cases hok : stOk s
  · have HCK : ∀ w, Calls Try.prog 16 #[.agg s.C.toArray] w fun e w' => e = .returned (.int .i64 340) ∧ Ext w w' := fun w => by have := check_any s w; rw [hok] at this; exact this
    have HRT : ∀ w, Calls Try.prog 12 #[.agg s.C.toArray] w fun e w' => e = .returned (.bool false) ∧ Ext w w' := fun w => by have := right_any s w; rw [hok] at this; exact this
    have H1 := Lib.hid HCK
    have H2 := Lib.hid HRT
    have hz : M = zero4 := by rw [← HMM.out]; unfold mixR; rw [hok]; rfl
    subst hz
    clear HCK HRT hok HMM HM1
    go_upto_region 5 with (go_at_call 16; refine (H1.out _).mono ?_; rintro _ w7 ⟨rfl, hx7⟩; have HX7 := Lib.hid hx7)
    clear l1 n1
    have l1 := (HS6.out.ext HX7.out).load
    have n1 := heap_lt (HS6.out.ext HX7.out)
    go_upto_region 6 with (go_at_call 12; refine (H2.out _).mono ?_; rintro _ w8 ⟨rfl, hx8⟩; have HX8 := Lib.hid hx8)
    clear l1 n1
    have l1 := ((HM6.out.ext HX7.out).ext HX8.out).load2
    have n1 := heap_lt ((HM6.out.ext HX7.out).ext HX8.out)
    go_wp2_with fail
    all_goals go_ret
    all_goals exact ⟨by simp, (HXA.out.trans HX7.out).trans HX8.out⟩
  · have HCK : ∀ w, Calls Try.prog 16 #[.agg s.C.toArray] w fun e w' => e = .returned (.int .i64 0) ∧ Ext w w' := fun w => by have := check_any s w; rw [hok] at this; exact this
    have HRT : ∀ w, Calls Try.prog 12 #[.agg s.C.toArray] w fun e w' => e = .returned (.bool true) ∧ Ext w w' := fun w => by have := right_any s w; rw [hok] at this; exact this
    have HRM : ∀ w, Calls Try.prog 17 #[.agg s.C.toArray, .agg color.C.toArray, .agg old.C.toArray] w fun e w' => e = .returned (.agg M.C.toArray) ∧ Ext w w' := fun w => by rw [← HMM.out, mixR_ok hok]; exact rmix_any s hok color old w
    have H1 := Lib.hid HCK
    have H2 := Lib.hid HRT
    have H3 := Lib.hid HRM
    clear HCK HRT HRM hok HMM HM1
    go_upto_region 5 with (go_at_call 16; refine (H1.out _).mono ?_; rintro _ w7 ⟨rfl, hx7⟩; have HX7 := Lib.hid hx7)
    clear l1 n1
    have l1 := (HS6.out.ext HX7.out).load
    have n1 := heap_lt (HS6.out.ext HX7.out)
    go_upto_region 7 with (go_at_call 12; refine (H2.out _).mono ?_; rintro _ w8 ⟨rfl, hx8⟩; have HX8 := Lib.hid hx8)
    clear l1 n1
    have hx78 := HX7.out.trans HX8.out
    have hs8 := HS6.out.ext hx78
    have hc8 := HC6.out.ext hx78
    have ho8 := HO6.out.ext hx78
    have hm8 := HM6.out.ext hx78
    have HXB := Lib.hid (HXA.out.trans hx78)
    clear HS6 HC6 HO6 HM6 HXA hx78 HX7 HX8
    have l1 := StAt.load (w := w8.drew) hs8
    have l2 := VAt.load2 (w := w8.drew) hc8
    have l3 := VAt.load2 (w := w8.drew) ho8
    have l4 := VAt.load2 (w := w8.drew) hm8
    have n1 := heap_lt hs8
    have n2 := heap_lt hc8
    have n3 := heap_lt ho8
    have n4 := heap_lt hm8
    have HM8 := Lib.hid hm8
    have HS8 := Lib.hid hs8
    have HC8 := Lib.hid hc8
    have HO8 := Lib.hid ho8
    clear hs8 hc8 ho8 hm8
    go_region_held3 (fun w' => (@Classical.epsilon _ neV (LdP 33 (.pointer (some ⟨b0, 0, none⟩)))).run Try.prog w' = .ok (.agg s.C.toArray) w' ∧ (@Classical.epsilon _ neV (LdP 30 (.pointer (some ⟨b0 + 1, 0, none⟩)))).run Try.prog w' = .ok (.agg color.C.toArray) w' ∧ (@Classical.epsilon _ neV (LdP 30 (.pointer (some ⟨b0 + 1 + 1, 0, none⟩)))).run Try.prog w' = .ok (.agg old.C.toArray) w' ∧ (@Classical.epsilon _ neV (LdP 30 (.pointer (some ⟨bm, 0, none⟩)))).run Try.prog w' = .ok (.agg M.C.toArray) w') (go_keep) (first | (go_at_call 17; refine (H3.out _).mono ?_; rintro _ w9 ⟨rfl, hx9⟩; have j1 := (StAt.ext (w := w8.drew) HS8.out hx9).load; have j2 := (VAt.ext (w := w8.drew) HC8.out hx9).load2; have j3 := (VAt.ext (w := w8.drew) HO8.out hx9).load2; have j4 := (VAt.ext (w := w8.drew) HM8.out hx9).load2))
    all_goals go_wp2_with fail
    all_goals go_ret
    all_goals exact ⟨by simp, HXB.out.drew.trans hx9⟩
theorem mix_arg (W : World) (v0 v1 v2 : Value) (h0 : ArgIs Try.prog W 33 v0) (h1 : ArgIs Try.prog W 30 v1) (h2 : ArgIs Try.prog W 30 v2) : Calls Try.prog 4 #[v0, v1, v2] W fun e w' => e = .returned (.bool true) ∧ Ext W w' := by
  obtain ⟨s, rfl⟩ := stIn h0
  obtain ⟨a, rfl⟩ := vecIn h1
  obtain ⟨b, rfl⟩ := vecIn h2
  exact mix_walk s a b W
end Go.Proofs.Ytagjjgookiodbaa
