/- The walk of FetchCounts. Conditions: each theorem's own premises. -/
import Derived.Test.YtgbcngmciabpkaaFet26
import Derived.Test.YtgbcngmciabpkaaQx
namespace Go.Proofs.Ytgbcngmciabpkaa
open Go.RowKit Go.ChangeShapes
set_option linter.unusedVariables false

theorem newP4 (w : World) (a b c d : Int) :
    ∃ w', (@Classical.epsilon _ neG (StF 51 (.pointer (some ⟨w.heap.size, 0, none⟩)) (.agg #[.int .i64 a, .int .i64 b, .int .i64 c, .int .i64 d]))).run Try.prog (w.alloc (.cells #[.int .i64 0, .int .i64 0, .int .i64 0, .int .i64 0] 51)) = .ok () w' ∧ w'.heap[w.heap.size]? = some (.cells #[.int .i64 a, .int .i64 b, .int .i64 c, .int .i64 d] 51 (0, 0)) ∧ Ext w w' := newP w [.int .i64 a, .int .i64 b, .int .i64 c, .int .i64 d] rfl (by simp [Value.oneCell'])
theorem prim_load4 {w : World} {b : Nat} {p0 p1 p2 p3 : Int} (h : w.heap[b]? = some (.cells #[.int .i64 p0, .int .i64 p1, .int .i64 p2, .int .i64 p3] 51 (0, 0))) : (@Classical.epsilon _ neF (LdF 51 (.pointer (some ⟨b, 0, none⟩)))).run Try.prog w = .ok (.agg #[.int .i64 p0, .int .i64 p1, .int .i64 p2, .int .i64 p3]) w :=
  ldF_whole (cs := [.int .i64 p0, .int .i64 p1, .int .i64 p2, .int .i64 p3]) _ h Try.underlying51 rfl info_prim4
theorem comp_at {n s : Nat} {a b c : Int} (h0 : compOk n s 0 a) (h1 : compOk n s 1 b) (h2 : compOk n s 2 c) (j : Nat) (hj : j < 3) : compOk n s j ([a, b, c].getD j 0) := by
  have : j = 0 ∨ j = 1 ∨ j = 2 := by omega
  rcases this with rfl | rfl | rfl
  · exact h0
  · exact h1
  · exact h2
theorem ix7_0 (a0 a1 a2 a3 a4 a5 a6 : Int) (w : World) : (Instr.index 54 (.agg #[.int .i64 a0, .int .i64 a1, .int .i64 a2, .int .i64 a3, .int .i64 a4, .int .i64 a5, .int .i64 a6]) (.int .i64 0)).run Try.prog w = .ok (.int .i64 a0) w := by
  rw [IxF_eq]
  exact ixF_one Try.underlying54 Try.underlying3 rfl rfl _ 0 (by decide) .i64 _ rfl w
theorem ix7_1 (a0 a1 a2 a3 a4 a5 a6 : Int) (w : World) : (Instr.index 54 (.agg #[.int .i64 a0, .int .i64 a1, .int .i64 a2, .int .i64 a3, .int .i64 a4, .int .i64 a5, .int .i64 a6]) (.int .i64 1)).run Try.prog w = .ok (.int .i64 a1) w := by
  rw [IxF_eq]
  exact ixF_one Try.underlying54 Try.underlying3 rfl rfl _ 1 (by decide) .i64 _ rfl w
theorem ix7_2 (a0 a1 a2 a3 a4 a5 a6 : Int) (w : World) : (Instr.index 54 (.agg #[.int .i64 a0, .int .i64 a1, .int .i64 a2, .int .i64 a3, .int .i64 a4, .int .i64 a5, .int .i64 a6]) (.int .i64 2)).run Try.prog w = .ok (.int .i64 a2) w := by
  rw [IxF_eq]
  exact ixF_one Try.underlying54 Try.underlying3 rfl rfl _ 2 (by decide) .i64 _ rfl w
theorem ix7_3 (a0 a1 a2 a3 a4 a5 a6 : Int) (w : World) : (Instr.index 54 (.agg #[.int .i64 a0, .int .i64 a1, .int .i64 a2, .int .i64 a3, .int .i64 a4, .int .i64 a5, .int .i64 a6]) (.int .i64 3)).run Try.prog w = .ok (.int .i64 a3) w := by
  rw [IxF_eq]
  exact ixF_one Try.underlying54 Try.underlying3 rfl rfl _ 3 (by decide) .i64 _ rfl w
theorem ix7_4 (a0 a1 a2 a3 a4 a5 a6 : Int) (w : World) : (Instr.index 54 (.agg #[.int .i64 a0, .int .i64 a1, .int .i64 a2, .int .i64 a3, .int .i64 a4, .int .i64 a5, .int .i64 a6]) (.int .i64 4)).run Try.prog w = .ok (.int .i64 a4) w := by
  rw [IxF_eq]
  exact ixF_one Try.underlying54 Try.underlying3 rfl rfl _ 4 (by decide) .i64 _ rfl w
theorem ix7_5 (a0 a1 a2 a3 a4 a5 a6 : Int) (w : World) : (Instr.index 54 (.agg #[.int .i64 a0, .int .i64 a1, .int .i64 a2, .int .i64 a3, .int .i64 a4, .int .i64 a5, .int .i64 a6]) (.int .i64 5)).run Try.prog w = .ok (.int .i64 a5) w := by
  rw [IxF_eq]
  exact ixF_one Try.underlying54 Try.underlying3 rfl rfl _ 5 (by decide) .i64 _ rfl w
theorem ix7_6 (a0 a1 a2 a3 a4 a5 a6 : Int) (w : World) : (Instr.index 54 (.agg #[.int .i64 a0, .int .i64 a1, .int .i64 a2, .int .i64 a3, .int .i64 a4, .int .i64 a5, .int .i64 a6]) (.int .i64 6)).run Try.prog w = .ok (.int .i64 a6) w := by
  rw [IxF_eq]
  exact ixF_one Try.underlying54 Try.underlying3 rfl rfl _ 6 (by decide) .i64 _ rfl w
attribute [local go_sem ↓] Ix3 Ld_Pr St_Pr
attribute [local go_sem] ix7_0 ix7_1 ix7_2 ix7_3 ix7_4 ix7_5 ix7_6
theorem heap_set_arr {w : World} {g k : Nat} {cur : Array Value} {T : TypeId} {u : Value} (h : w.heap[g]? = some (.cells cur T (0, 0))) : (w.setCell ⟨g, k, none⟩ u).heap[g]? = some (.cells (cur.set! k u) T (0, 0)) := by
  have := heap_set (k := k) (u := u) h
  simpa using this
end Go.Proofs.Ytgbcngmciabpkaa
