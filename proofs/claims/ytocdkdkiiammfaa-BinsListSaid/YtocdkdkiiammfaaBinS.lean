/- A stroke in its block, whole loads and stores of strokes. Conditions: each theorem's own premises. -/
import Derived.Test.YtocdkdkiiammfaaBin1
namespace Go.Proofs.Ytocdkdkiiammfaa
open Go.RowKit
set_option linter.unusedVariables false
set_option maxRecDepth 100000

theorem Ld_Sk (v : Value) : Instr.loadAt 46 v = @Classical.epsilon _ neF (LdF 46 v) := LdF_eq _ _
theorem St_Sk (v u : Value) : Instr.storeAt 46 v u = @Classical.epsilon _ neG (StF 46 v u) := StF_eq _ _ _
theorem info_sk : (Try.prog.info? 46).map (·.size) = some 14 := by kernel_rfl
theorem info_sk3 : (Try.prog.info? 46).map (fun i => (i.zero, i.size, i.bytes)) = some (some (.agg #[.int .i64 0, .int .i64 0, .int .i32 0, .int .i32 0, .bool false, .int .i32 0, .int .i32 0, .int .i32 0, .int .i32 0, .slice none 0 0, .int .i32 0, .int .i32 0, .int .i32 0, .int .i32 0]), 14, 88) := by kernel_rfl
/-- A stroke in its block. -/
theorem newSk (w : World) (L : List Value) (hl : L.length = 14) (h1 : L.toArray.all (·.oneCell') = true) :
    ∃ w', (@Classical.epsilon _ neG (StF 46 (.pointer (some ⟨w.heap.size, 0, none⟩)) (.agg L.toArray))).run Try.prog (w.alloc (.cells #[.int .i64 0, .int .i64 0, .int .i32 0, .int .i32 0, .bool false, .int .i32 0, .int .i32 0, .int .i32 0, .int .i32 0, .slice none 0 0, .int .i32 0, .int .i32 0, .int .i32 0, .int .i32 0] 46)) = .ok () w' ∧ w'.heap[w.heap.size]? = some (.cells L.toArray 46 (0, 0)) ∧ Ext w w' := by
  have h : (w.alloc (.cells #[.int .i64 0, .int .i64 0, .int .i32 0, .int .i32 0, .bool false, .int .i32 0, .int .i32 0, .int .i32 0, .int .i32 0, .slice none 0 0, .int .i32 0, .int .i32 0, .int .i32 0, .int .i32 0] 46)).heap[w.heap.size]? = some (.cells [Value.int .i64 0, .int .i64 0, .int .i32 0, .int .i32 0, .bool false, .int .i32 0, .int .i32 0, .int .i32 0, .int .i32 0, .slice none 0 0, .int .i32 0, .int .i32 0, .int .i32 0, .int .i32 0].toArray 46 (0, 0)) := heap_alloc_new _ _
  obtain ⟨h1, h2, h3⟩ := stF_mid 46 h 0 L (by rw [hl]; decide) (by rw [hl]; exact info_sk) h1
  refine ⟨_, h1, ?_, ((Ext.refl _).alloc _).chgTrans h3 (by simp)⟩
  rw [h2, List.take_zero, List.nil_append, Nat.zero_add, List.drop_eq_nil_of_le (by rw [hl]; decide), List.append_nil]
theorem sk_load {w : World} {b off : Nat} {L : List Value} {cs : List Value} {T : TypeId} (h : w.heap[b]? = some (.cells L.toArray T (0, 0))) (hc : (L.drop off).take 14 = cs) (hl : cs.length = 14) :
    (@Classical.epsilon _ neF (LdF 46 (.pointer (some ⟨b, off, none⟩)))).run Try.prog w = .ok (.agg cs.toArray) w :=
  ldF_ok _ (rangeF h fun j v hv => by
    have hj : j < 14 := by have := (List.getElem?_eq_some_iff.1 hv).1; omega
    rw [← hc, List.getElem?_take, if_pos hj, List.getElem?_drop] at hv
    exact hv) Try.underlying46 rfl (by rw [hl]; exact info_sk)
set_option maxRecDepth 100000 in
theorem clone_nil (w : World) : Calls Try.prog 21 #[.slice none 0 0] w fun e w' => e = .returned (.slice none 0 0) ∧ w = w' := by
  have q22 : ∀ (w : World) (a : Option Addr) (n c n' c' : Nat), (binOp .eql 42 (.slice a n c) (.slice none n' c')).run Try.prog w = .ok (.bool a.isNone) w := fun w a n c n' c' => Lib.run_eql_slice_nil w _ _ a n c n' c' Try.underlying42
  go_enter Try.func21, Try.ntmps21
  go_wp2
  go_ret
  exact ⟨rfl, rfl⟩
def skL : List Value := [Value.int .i64 0, .int .i64 0, .int .i32 0, .int .i32 0, .bool false, .int .i32 0, .int .i32 0, .int .i32 0, .int .i32 0, .slice none 0 0, .int .i32 0, .int .i32 0, .int .i32 0, .int .i32 0, .int .i64 16, .int .i64 1, .int .i32 0, .int .i32 0, .bool false, .int .i32 0, .int .i32 0, .int .i32 0, .int .i32 0, .slice none 0 0, .int .i32 0, .int .i32 0, .int .i32 0, .int .i32 0, .int .i64 20, .int .i64 0, .int .i32 0, .int .i32 0, .bool false, .int .i32 0, .int .i32 0, .int .i32 0, .int .i32 0, .slice none 0 0, .int .i32 0, .int .i32 0, .int .i32 0, .int .i32 0]
end Go.Proofs.Ytocdkdkiiammfaa
