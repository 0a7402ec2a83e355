/- What '==' says of colours, cells and states; contract of wakes. Conditions: each theorem's own premises. -/
import Derived.Test.YtagjjgookiodbaaOps20
namespace Go.Proofs.Ytagjjgookiodbaa
open Go.RowKit
set_option linter.unusedVariables false
set_option linter.unusedSimpArgs false

theorem eq_vec9 (n : Nat) (a0 a1 a2 a3 b0 b1 b2 b3 : Int) (w : World) : (Op.equalIn (n + 2) 30 (.agg #[.int .i32 a0, .int .i32 a1, .int .i32 a2, .int .i32 a3]) (.agg #[.int .i32 b0, .int .i32 b1, .int .i32 b2, .int .i32 b3])).run Try.prog w = .ok (a0 == b0 && (a1 == b1 && (a2 == b2 && a3 == b3))) w := by
  have u3 := Try.underlying28
  have a3' := Try.isAgg28
  have z3 := Try.sizeOf28
  rw [show n + 2 = (n + 1) + 1 from rfl, Op.equalIn]
  simp only [Sem.run_bind, run_underlying Try.underlying30, Result.andThen_ok]
  simp only [Std.Legacy.Range.forIn_eq_forIn_range', Std.Legacy.Range.size, Nat.sub_zero, Nat.add_sub_cancel, Nat.div_one, List.range'_succ, List.range'_zero, List.forIn_cons, List.forIn_nil]
  go_simp
  by_cases h1 : a0 = b0 <;> by_cases h2 : a1 = b1 <;> by_cases h3 : a2 = b2 <;> by_cases h4 : a3 = b3 <;> simp [h1, h2, h3, h4]
theorem eqV (u v : V4) (w : World) : (Op.equalIn 10000 30 (.agg u.C.toArray) (.agg v.C.toArray)).run Try.prog w = .ok (decide (u = v)) w := by
  refine (eq_vec9 9998 u.a u.b u.c u.d v.a v.b v.c v.d w).trans ?_
  congr 1
  rw [Bool.eq_iff_iff]
  simp only [Bool.and_eq_true, beq_iff_eq, decide_eq_true_eq]
  constructor
  · rintro ⟨h1, h2, h3, h4⟩; cases u; cases v; simp_all
  · rintro rfl; exact ⟨rfl, rfl, rfl, rfl⟩
theorem eqVz (u : V4) (w : World) : (Op.equalIn 10000 30 (.agg u.C.toArray) (.agg #[.int .i32 0, .int .i32 0, .int .i32 0, .int .i32 0])).run Try.prog w = .ok (decide (u = zero4)) w := eqV u zero4 w
theorem eqC0 (a0 a1 a2 a3 b0 b1 b2 b3 a4 b4 a5 b5 : Int) (w : World) : (Op.equalIn 10000 38 (.agg #[.int .i32 a0, .int .i32 a1, .int .i32 a2, .int .i32 a3, .int .i32 a4, .int .i64 a5]) (.agg #[.int .i32 b0, .int .i32 b1, .int .i32 b2, .int .i32 b3, .int .i32 b4, .int .i64 b5])).run Try.prog w = .ok ((a0 == b0 && (a1 == b1 && (a2 == b2 && a3 == b3))) && (a4 == b4 && a5 == b5)) w := by
  have hv : (Op.equalIn 9999 30 (.agg #[.int .i32 a0, .int .i32 a1, .int .i32 a2, .int .i32 a3]) (.agg #[.int .i32 b0, .int .i32 b1, .int .i32 b2, .int .i32 b3])).run Try.prog w = .ok (a0 == b0 && (a1 == b1 && (a2 == b2 && a3 == b3))) w := eq_vec9 9997 a0 a1 a2 a3 b0 b1 b2 b3 w
  have hs : Try.prog.stoodInHeld 38 = false := by kernel_rfl
  have u3 := Try.underlying28
  have a3' := Try.isAgg28
  have z3 := Try.sizeOf28
  have u4 := Try.underlying3
  have a4' := Try.isAgg3
  have z4 := Try.sizeOf3
  have a5' := Try.isAgg30
  have z5 := Try.sizeOf30
  rw [show (10000 : Nat) = 9999 + 1 from rfl, Op.equalIn]
  simp only [Sem.run_bind, run_underlying Try.underlying38, Result.andThen_ok, hs, Bool.false_eq_true, if_false]
  go_simp
  by_cases h1 : a0 = b0 <;> by_cases h2 : a1 = b1 <;> by_cases h3 : a2 = b2 <;> by_cases h4 : a3 = b3 <;> by_cases h5 : a4 = b4 <;> by_cases h6 : a5 = b5 <;> simp [h1, h2, h3, h4, h5, h6]
theorem eqC (u v : Ce) (w : World) : (Op.equalIn 10000 38 (.agg u.C.toArray) (.agg v.C.toArray)).run Try.prog w = .ok (decide (u = v)) w := by
  refine (eqC0 u.v.a u.v.b u.v.c u.v.d v.v.a v.v.b v.v.c v.v.d u.dep v.dep u.sten v.sten w).trans ?_
  congr 1
  rw [Bool.eq_iff_iff]
  simp only [Bool.and_eq_true, beq_iff_eq, decide_eq_true_eq]
  constructor
  · rintro ⟨⟨h1, h2, h3, h4⟩, h5, h6⟩
    obtain ⟨⟨_, _, _, _⟩, _, _⟩ := u
    obtain ⟨⟨_, _, _, _⟩, _, _⟩ := v
    simp_all
  · rintro rfl; exact ⟨⟨rfl, rfl, rfl, rfl⟩, rfl, rfl⟩
theorem eqCz (u : Ce) (w : World) : (Op.equalIn 10000 38 (.agg u.C.toArray) (.agg #[.int .i32 0, .int .i32 0, .int .i32 0, .int .i32 0, .int .i32 0, .int .i64 0])).run Try.prog w = .ok (decide (u = ceZ)) w := eqC u ceZ w
theorem eqS0 (w : World) : (Op.equalIn 10000 33 (.agg st0.C.toArray) (.agg st0.C.toArray)).run Try.prog w = .ok true w := by kernel_rfl

theorem newS (w : World) (u : St) : ∃ w', (@Classical.epsilon _ neU (StP 33 (.pointer (some ⟨w.heap.size, 0, none⟩)) (.agg u.C.toArray))).run Try.prog (w.alloc (.cells #[.bool false, .int .i64 0, .int .i64 0, .int .i64 0, .int .i64 0, .bool false, .int .i64 0, .int .i64 0, .int .i64 0, .int .i64 0, .int .i64 0, .int .i64 0, .int .i64 0, .int .i64 0, .int .i64 0, .int .i64 0, .int .i64 0, .int .i64 0, .int .i64 0, .int .i64 0, .bool false, .bool false, .int .i64 0, .bool false, .int .i64 0, .int .i64 0, .int .i64 0, .int .i64 0, .int .i64 0, .int .i64 0, .int .i32 0, .int .i32 0, .int .i32 0, .int .i32 0, .bool false, .bool false, .bool false, .bool false] 33)) = .ok () w' ∧ StAt w' w.heap.size u ∧ Ext w w' := by
  have h : StAt (w.alloc (.cells #[.bool false, .int .i64 0, .int .i64 0, .int .i64 0, .int .i64 0, .bool false, .int .i64 0, .int .i64 0, .int .i64 0, .int .i64 0, .int .i64 0, .int .i64 0, .int .i64 0, .int .i64 0, .int .i64 0, .int .i64 0, .int .i64 0, .int .i64 0, .int .i64 0, .int .i64 0, .bool false, .bool false, .int .i64 0, .bool false, .int .i64 0, .int .i64 0, .int .i64 0, .int .i64 0, .int .i64 0, .int .i64 0, .int .i32 0, .int .i32 0, .int .i32 0, .int .i32 0, .bool false, .bool false, .bool false, .bool false] 33)) w.heap.size stz := heap_alloc_new _ _
  exact ⟨_, StAt.store h u, StAt.stored h u, ((Ext.refl _).alloc _).chgTrans (chg_setCells (b := w.heap.size) (M := [w.heap.size]) (by simp) _ 0 _ (Chg.refl _ _)) (by simp)⟩
theorem newC (w : World) (u : Ce) : ∃ w', (@Classical.epsilon _ neU (StP 38 (.pointer (some ⟨w.heap.size, 0, none⟩)) (.agg u.C.toArray))).run Try.prog (w.alloc (.cells #[.int .i32 0, .int .i32 0, .int .i32 0, .int .i32 0, .int .i32 0, .int .i64 0] 38)) = .ok () w' ∧ CAt w' w.heap.size u ∧ Ext w w' := by
  have h : CAt (w.alloc (.cells #[.int .i32 0, .int .i32 0, .int .i32 0, .int .i32 0, .int .i32 0, .int .i64 0] 38)) w.heap.size ceZ := heap_alloc_new _ _
  exact ⟨_, CAt.store2 h u, CAt.stored h u, ((Ext.refl _).alloc _).chgTrans (chg_setCells (b := w.heap.size) (M := [w.heap.size]) (by simp) _ 0 _ (Chg.refl _ _)) (by simp)⟩
theorem newV (w : World) (u : V4) : ∃ w', (@Classical.epsilon _ neU (StP 30 (.pointer (some ⟨w.heap.size, 0, none⟩)) (.agg u.C.toArray))).run Try.prog (w.alloc (.cells #[.int .i32 0, .int .i32 0, .int .i32 0, .int .i32 0] 30)) = .ok () w' ∧ VAt w' w.heap.size u ∧ Ext w w' := by
  have h : VAt (w.alloc (.cells #[.int .i32 0, .int .i32 0, .int .i32 0, .int .i32 0] 30)) w.heap.size zero4 := heap_alloc_new _ _
  exact ⟨_, VAt.store2 h u, VAt.stored h u, ((Ext.refl _).alloc _).chgTrans (chg_setCells (b := w.heap.size) (M := [w.heap.size]) (by simp) _ 0 _ (Chg.refl _ _)) (by simp)⟩
def stw : St := { st0 with dt := true }
def white : V4 := ⟨65536, 65536, 65536, 65536⟩
def frw : Fr := ⟨0, 0, 32768, 0, false, zero4, .slice none 0 0⟩
def cew : Ce := ⟨zero4, 65536, 0⟩
theorem wake_apply : applyR stw frw white cew = (⟨white, 32768, 0⟩, true, 0) := by decide +kernel
theorem wake_check : stOk stw = true := by decide +kernel
theorem wake_stz : stOk stz = false := by decide +kernel
theorem wake_turn : (turnV 8 5 0 15 : Int) = 10 := by decide +kernel
attribute [local go_sem ↓] Ld_V4 St_V4 Ld_St St_St St_Ce Ld_Ce
attribute [local go_sem] eqV eqC eqVz eqCz
set_option maxHeartbeats 4000000 in
set_option maxRecDepth 100000 in
theorem wakes_any (w : World) : Calls Try.prog 10 #[] w fun e w' => e = .returned (.bool true) ∧ Ext w w' := by
  have HAPP : ∀ w, Calls Try.prog 11 #[.agg stw.C.toArray, .agg #[.int .i64 0, .int .i64 0, .int .i32 32768, .int .i32 0, .bool false, .int .i32 0, .int .i32 0, .int .i32 0, .int .i32 0, .slice none 0 0], .agg white.C.toArray, .agg #[.int .i32 0, .int .i32 0, .int .i32 0, .int .i32 0, .int .i32 65536, .int .i64 0]] w fun e w' => e = .returned (.tuple #[.agg (Ce.mk white 32768 0).C.toArray, .bool true, .int .i64 0]) ∧ Ext w w' := fun w => by
    have := apply_any stw frw white cew w
    rw [wake_apply] at this
    exact this
  have HAP := Lib.hid HAPP
  clear HAPP
  go_enter Try.func10, Try.ntmps10
  go_upto_region 2 with (go_at_call 22; refine (new_any _).mono ?_; rintro _ w1 ⟨rfl, hx1⟩; obtain ⟨w2, hst, h2, hx2⟩ := newS w1 st0; have HX2 := Lib.hid (hx1.trans hx2); have H2 := Lib.hid h2; have HX1 := Lib.hid hx1; clear hx1 h2 hx2)
  clear hst
  have n0 := heap_lt H2.out
  have c5 : w2.cell? ⟨w1.heap.size, 20, none⟩ = some (.bool false) := cell_of_heap H2.out rfl
  have f5 : w2.frozen? ⟨w1.heap.size, 20, none⟩ = false := free_of_heap H2.out
  have h3 : StAt (w2.setCell ⟨w1.heap.size, 20, none⟩ (.bool true)) w1.heap.size stw := heap_set (k := 20) (u := .bool true) H2.out
  have hx3 : Ext w (w2.setCell ⟨w1.heap.size, 20, none⟩ (.bool true)) := HX2.out.setCell HX1.out.size _
  have H3 := Lib.hid h3
  have HX3 := Lib.hid hx3
  clear h3 hx3
  go_upto_region 3 with fail
  generalize w2.setCell ⟨w1.heap.size, 20, none⟩ (.bool true) = w3 at *
  generalize w1.heap.size = bs at *
  clear c5 f5 n0 H2 HX2
  obtain ⟨w4, hst, h4, hx4⟩ := newV w3 white
  have hst : (@Classical.epsilon _ neU (StP 30 (.pointer (some ⟨w3.heap.size, 0, none⟩)) (.agg #[.int .i32 65536, .int .i32 65536, .int .i32 65536, .int .i32 65536]))).run Try.prog (w3.alloc (.cells #[.int .i32 0, .int .i32 0, .int .i32 0, .int .i32 0] 30)) = .ok () w4 := hst
  have HV4 := Lib.hid h4
  have HS4 := Lib.hid (H3.out.ext hx4)
  have HX4 := Lib.hid (HX3.out.trans hx4)
  clear h4 hx4 H3 HX3
  go_upto_region 4 with fail
  clear hst
  generalize w3.heap.size = bv at *
  have l1 := HS4.out.load
  have l2 := HV4.out.load2
  have n0 := heap_lt HS4.out
  have n1 := heap_lt HV4.out
  go_upto_region 5 with (go_at_call 11; refine (HAP.out _).mono ?_; rintro _ w5 ⟨rfl, hx5⟩; obtain ⟨w6, hst, h6, hx6⟩ := newC w5 (Ce.mk white 32768 0); have HX6 := Lib.hid (HX4.out.trans (hx5.trans hx6)); have HC6 := Lib.hid h6; have HX56 := Lib.hid (hx5.trans hx6); clear h6 hx6 hx5)
  clear hst l1 l2 n0 n1
  generalize w5.heap.size = bc at *
  have l1 := (HS4.out.ext HX56.out).load
  have l2 := (HV4.out.ext HX56.out).load2
  have l3 := HC6.out.loadV
  have n0 := heap_lt (HS4.out.ext HX56.out)
  have n1 := heap_lt (HV4.out.ext HX56.out)
  have n2 := heap_lt HC6.out
  have c4 : w6.cell? ⟨bc, 4, none⟩ = some (.int .i32 32768) := cell_of_heap HC6.out rfl
  have HK1 : ∀ w, Calls Try.prog 16 #[.agg stw.C.toArray] w fun e w' => e = .returned (.int .i64 0) ∧ Ext w w' := fun w => by have := check_any stw w; rw [wake_check] at this; exact this
  have HK2 : ∀ w, Calls Try.prog 16 #[.agg #[.bool false, .int .i64 0, .int .i64 0, .int .i64 0, .int .i64 0, .bool false, .int .i64 0, .int .i64 0, .int .i64 0, .int .i64 0, .int .i64 0, .int .i64 0, .int .i64 0, .int .i64 0, .int .i64 0, .int .i64 0, .int .i64 0, .int .i64 0, .int .i64 0, .int .i64 0, .bool false, .bool false, .int .i64 0, .bool false, .int .i64 0, .int .i64 0, .int .i64 0, .int .i64 0, .int .i64 0, .int .i64 0, .int .i32 0, .int .i32 0, .int .i32 0, .int .i32 0, .bool false, .bool false, .bool false, .bool false]] w fun e w' => e = .returned (.int .i64 340) ∧ Ext w w' := fun w => by have := check_any stz w; rw [wake_stz] at this; exact this
  have HT := Lib.hid wake_turn
  have HK1 := Lib.hid HK1
  have HK2 := Lib.hid HK2
  go_wp2_with fail
  refine (HK1.out _).mono ?_
  rintro _ w7 ⟨rfl, hx7⟩
  have HX7 := Lib.hid (HX6.out.trans hx7)
  have k4 := hx7.cell c4
  have l3 := (HC6.out.ext hx7).loadV
  have l2 := ((HV4.out.ext HX56.out).ext hx7).load2
  have n1 := heap_lt ((HV4.out.ext HX56.out).ext hx7)
  have n2 := heap_lt (HC6.out.ext hx7)
  clear hx7
  go_wp2_with fail
  refine (HK2.out _).mono ?_
  rintro _ w8 ⟨rfl, hx8⟩
  have HX8 := Lib.hid (HX7.out.trans hx8)
  clear hx8
  go_wp2_with fail
  refine (turn_any _ _ _ _ _).mono ?_
  rintro _ _ ⟨rfl, rfl⟩
  rw [HT.out]
  go_wp2_with fail
  go_ret
  exact ⟨rfl, HX8.out⟩
end Go.Proofs.Ytagjjgookiodbaa
