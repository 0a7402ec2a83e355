/- What '==' says of colours, cells and states; new blocks of them. Conditions: each theorem's own premises. -/
import Derived.Test.YtgdcdkajicgliaaOps18
namespace Go.Proofs.Ytgdcdkajicgliaa
open Go.RowKit
set_option linter.unusedVariables false
set_option maxRecDepth 100000
set_option linter.unusedSimpArgs false

theorem eq_vec9 (n : Nat) (a0 a1 a2 a3 b0 b1 b2 b3 : Int) (w : World) : (Op.equalIn (n + 2) 26 (.agg #[.int .i32 a0, .int .i32 a1, .int .i32 a2, .int .i32 a3]) (.agg #[.int .i32 b0, .int .i32 b1, .int .i32 b2, .int .i32 b3])).run Try.prog w = .ok (a0 == b0 && (a1 == b1 && (a2 == b2 && a3 == b3))) w := by
  have u3 := Try.underlying24
  have a3' := Try.isAgg24
  have z3 := Try.sizeOf24
  rw [show n + 2 = (n + 1) + 1 from rfl, Op.equalIn]
  simp only [Sem.run_bind, run_underlying Try.underlying26, Result.andThen_ok]
  simp only [Std.Legacy.Range.forIn_eq_forIn_range', Std.Legacy.Range.size, Nat.sub_zero, Nat.add_sub_cancel, Nat.div_one, List.range'_succ, List.range'_zero, List.forIn_cons, List.forIn_nil]
  go_simp
  by_cases h1 : a0 = b0 <;> by_cases h2 : a1 = b1 <;> by_cases h3 : a2 = b2 <;> by_cases h4 : a3 = b3 <;> simp [h1, h2, h3, h4]
theorem eqV (u v : V4) (w : World) : (Op.equalIn 10000 26 (.agg u.C.toArray) (.agg v.C.toArray)).run Try.prog w = .ok (decide (u = v)) w := by
  refine (eq_vec9 9998 u.a u.b u.c u.d v.a v.b v.c v.d w).trans ?_
  congr 1
  rw [Bool.eq_iff_iff]
  simp only [Bool.and_eq_true, beq_iff_eq, decide_eq_true_eq]
  constructor
  · rintro ⟨h1, h2, h3, h4⟩; cases u; cases v; simp_all
  · rintro rfl; exact ⟨rfl, rfl, rfl, rfl⟩
theorem eqVz (u : V4) (w : World) : (Op.equalIn 10000 26 (.agg u.C.toArray) (.agg #[.int .i32 0, .int .i32 0, .int .i32 0, .int .i32 0])).run Try.prog w = .ok (decide (u = zero4)) w := eqV u zero4 w
theorem eqC0 (a0 a1 a2 a3 b0 b1 b2 b3 a4 b4 a5 b5 : Int) (w : World) : (Op.equalIn 10000 45 (.agg #[.int .i32 a0, .int .i32 a1, .int .i32 a2, .int .i32 a3, .int .i32 a4, .int .i64 a5]) (.agg #[.int .i32 b0, .int .i32 b1, .int .i32 b2, .int .i32 b3, .int .i32 b4, .int .i64 b5])).run Try.prog w = .ok ((a0 == b0 && (a1 == b1 && (a2 == b2 && a3 == b3))) && (a4 == b4 && a5 == b5)) w := by
  have hv : (Op.equalIn 9999 26 (.agg #[.int .i32 a0, .int .i32 a1, .int .i32 a2, .int .i32 a3]) (.agg #[.int .i32 b0, .int .i32 b1, .int .i32 b2, .int .i32 b3])).run Try.prog w = .ok (a0 == b0 && (a1 == b1 && (a2 == b2 && a3 == b3))) w := eq_vec9 9997 a0 a1 a2 a3 b0 b1 b2 b3 w
  have hs : Try.prog.stoodInHeld 45 = false := by kernel_rfl
  have u3 := Try.underlying24
  have a3' := Try.isAgg24
  have z3 := Try.sizeOf24
  have u4 := Try.underlying3
  have a4' := Try.isAgg3
  have z4 := Try.sizeOf3
  have a5' := Try.isAgg26
  have z5 := Try.sizeOf26
  rw [show (10000 : Nat) = 9999 + 1 from rfl, Op.equalIn]
  simp only [Sem.run_bind, run_underlying Try.underlying45, Result.andThen_ok, hs, Bool.false_eq_true, if_false]
  go_simp
  by_cases h1 : a0 = b0 <;> by_cases h2 : a1 = b1 <;> by_cases h3 : a2 = b2 <;> by_cases h4 : a3 = b3 <;> by_cases h5 : a4 = b4 <;> by_cases h6 : a5 = b5 <;> simp [h1, h2, h3, h4, h5, h6]
theorem eqC (u v : Ce) (w : World) : (Op.equalIn 10000 45 (.agg u.C.toArray) (.agg v.C.toArray)).run Try.prog w = .ok (decide (u = v)) w := by
  refine (eqC0 u.v.a u.v.b u.v.c u.v.d v.v.a v.v.b v.v.c v.v.d u.dep v.dep u.sten v.sten w).trans ?_
  congr 1
  rw [Bool.eq_iff_iff]
  simp only [Bool.and_eq_true, beq_iff_eq, decide_eq_true_eq]
  constructor
  · rintro ⟨⟨h1, h2, h3, h4⟩, h5, h6⟩
    obtain ⟨⟨_, _, _, _⟩, _, _⟩ := u
    obtain ⟨⟨_, _, _, _⟩, _, _⟩ := v
    simp_all
  · rintro rfl; exact ⟨⟨rfl, rfl, rfl, rfl⟩, rfl, rfl⟩
theorem eqCz (u : Ce) (w : World) : (Op.equalIn 10000 45 (.agg u.C.toArray) (.agg #[.int .i32 0, .int .i32 0, .int .i32 0, .int .i32 0, .int .i32 0, .int .i64 0])).run Try.prog w = .ok (decide (u = ceZ)) w := eqC u ceZ w
theorem eqS0 (w : World) : (Op.equalIn 10000 42 (.agg st0.C.toArray) (.agg st0.C.toArray)).run Try.prog w = .ok true w := by kernel_rfl

theorem newS (w : World) (u : St) : ∃ w', (@Classical.epsilon _ neU (StP 42 (.pointer (some ⟨w.heap.size, 0, none⟩)) (.agg u.C.toArray))).run Try.prog (w.alloc (.cells #[.bool false, .int .i64 0, .int .i64 0, .int .i64 0, .int .i64 0, .bool false, .int .i64 0, .int .i64 0, .int .i64 0, .int .i64 0, .int .i64 0, .int .i64 0, .int .i64 0, .int .i64 0, .int .i64 0, .int .i64 0, .int .i64 0, .int .i64 0, .int .i64 0, .int .i64 0, .bool false, .bool false, .int .i64 0, .bool false, .int .i64 0, .int .i64 0, .int .i64 0, .int .i64 0, .int .i64 0, .int .i64 0, .int .i32 0, .int .i32 0, .int .i32 0, .int .i32 0, .bool false, .bool false, .bool false, .bool false] 42)) = .ok () w' ∧ StAt w' w.heap.size u ∧ Ext w w' := by
  have h : StAt (w.alloc (.cells #[.bool false, .int .i64 0, .int .i64 0, .int .i64 0, .int .i64 0, .bool false, .int .i64 0, .int .i64 0, .int .i64 0, .int .i64 0, .int .i64 0, .int .i64 0, .int .i64 0, .int .i64 0, .int .i64 0, .int .i64 0, .int .i64 0, .int .i64 0, .int .i64 0, .int .i64 0, .bool false, .bool false, .int .i64 0, .bool false, .int .i64 0, .int .i64 0, .int .i64 0, .int .i64 0, .int .i64 0, .int .i64 0, .int .i32 0, .int .i32 0, .int .i32 0, .int .i32 0, .bool false, .bool false, .bool false, .bool false] 42)) w.heap.size stz := heap_alloc_new _ _
  exact ⟨_, StAt.store h u, StAt.stored h u, ((Ext.refl _).alloc _).chgTrans (chg_setCells (b := w.heap.size) (M := [w.heap.size]) (by simp) _ 0 _ (Chg.refl _ _)) (by simp)⟩
theorem newC (w : World) (u : Ce) : ∃ w', (@Classical.epsilon _ neU (StP 45 (.pointer (some ⟨w.heap.size, 0, none⟩)) (.agg u.C.toArray))).run Try.prog (w.alloc (.cells #[.int .i32 0, .int .i32 0, .int .i32 0, .int .i32 0, .int .i32 0, .int .i64 0] 45)) = .ok () w' ∧ CAt w' w.heap.size u ∧ Ext w w' := by
  have h : CAt (w.alloc (.cells #[.int .i32 0, .int .i32 0, .int .i32 0, .int .i32 0, .int .i32 0, .int .i64 0] 45)) w.heap.size ceZ := heap_alloc_new _ _
  exact ⟨_, CAt.store2 h u, CAt.stored h u, ((Ext.refl _).alloc _).chgTrans (chg_setCells (b := w.heap.size) (M := [w.heap.size]) (by simp) _ 0 _ (Chg.refl _ _)) (by simp)⟩
theorem newV (w : World) (u : V4) : ∃ w', (@Classical.epsilon _ neU (StP 26 (.pointer (some ⟨w.heap.size, 0, none⟩)) (.agg u.C.toArray))).run Try.prog (w.alloc (.cells #[.int .i32 0, .int .i32 0, .int .i32 0, .int .i32 0] 26)) = .ok () w' ∧ VAt w' w.heap.size u ∧ Ext w w' := by
  have h : VAt (w.alloc (.cells #[.int .i32 0, .int .i32 0, .int .i32 0, .int .i32 0] 26)) w.heap.size zero4 := heap_alloc_new _ _
  exact ⟨_, VAt.store2 h u, VAt.stored h u, ((Ext.refl _).alloc _).chgTrans (chg_setCells (b := w.heap.size) (M := [w.heap.size]) (by simp) _ 0 _ (Chg.refl _ _)) (by simp)⟩
end Go.Proofs.Ytgdcdkajicgliaa
