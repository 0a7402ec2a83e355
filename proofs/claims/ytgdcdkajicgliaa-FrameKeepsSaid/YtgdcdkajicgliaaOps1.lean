/- Contracts of ops' Compare, in, outside and the document's Compare, byteOf, unit. Conditions: each theorem's own premises. -/
import Derived.Test.YtgdcdkajicgliaaRows
import Derived.Test.YtgdcdkajicgliaaBitsN
import Derived.Test.YtgdcdkajicgliaaBlk
import Derived.Test.YtgdcdkajicgliaaOpen
import Derived.Lib.Hide
import Derived.Deep.RegionWith
import Derived.Deep.RegionHeld3
import Derived.Deep.DrawnRows
namespace Go.Proofs.Ytgdcdkajicgliaa
open Go.RowKit
set_option linter.unusedVariables false
set_option maxRecDepth 100000

/-- Does a comparison hold? -/
def cmpV (how a b : Int) : Bool :=
  if how = 2 then decide (a < b) else if how = 3 then a == b else if how = 4 then decide (a ≤ b) else if how = 5 then decide (b < a) else if how = 6 then a != b else if how = 7 then decide (b ≤ a) else how == 8
theorem how_cases (how : Int) : how = 2 ∨ how = 3 ∨ how = 4 ∨ how = 5 ∨ how = 6 ∨ how = 7 ∨ how = 8 ∨ ((how == 2) = false ∧ (how == 3) = false ∧ (how == 4) = false ∧ (how == 5) = false ∧ (how == 6) = false ∧ (how == 7) = false ∧ (how == 8) = false) := by
  by_cases h : 2 ≤ how ∧ how ≤ 8
  · omega
  · right; right; right; right; right; right; right
    refine ⟨?_, ?_, ?_, ?_, ?_, ?_, ?_⟩ <;> (simp; omega)
theorem cmpV_other (how a b : Int) (h : (how == 2) = false ∧ (how == 3) = false ∧ (how == 4) = false ∧ (how == 5) = false ∧ (how == 6) = false ∧ (how == 7) = false ∧ (how == 8) = false) : cmpV how a b = false := by
  obtain ⟨h2, h3, h4, h5, h6, h7, h8⟩ := h
  simp only [beq_eq_false_iff_ne] at h2 h3 h4 h5 h6 h7
  unfold cmpV
  rw [if_neg h2, if_neg h3, if_neg h4, if_neg h5, if_neg h6, if_neg h7, h8]
set_option maxHeartbeats 1000000 in
theorem compare_any (how a b : Int) (w : World) : Calls Try.prog 99 #[.int .i64 how, .int .i64 a, .int .i64 b] w fun e w' => e = .returned (.bool (cmpV how a b)) ∧ w = w' := by
  rcases how_cases how with rfl | rfl | rfl | rfl | rfl | rfl | rfl | h
  iterate 7
    · go_enter Try.func99, Try.ntmps99
      go_wp2
      go_ret
      exact ⟨rfl, rfl⟩
  have hv := Lib.hid (cmpV_other how a b h)
  obtain ⟨h2, h3, h4, h5, h6, h7, h8⟩ := h
  go_enter Try.func99, Try.ntmps99
  go_wp2
  go_ret
  rw [hv.out]
  exact ⟨rfl, rfl⟩
set_option maxHeartbeats 2000000 in
set_option maxRecDepth 20000 in
theorem refcompare_any (how a b : Int) (w : World) : Calls Try.prog 107 #[.int .i64 how, .int .i64 a, .int .i64 b] w fun e w' => e = .returned (.bool (cmpV how a b)) ∧ w = w' := by
  rcases how_cases how with rfl | rfl | rfl | rfl | rfl | rfl | rfl | h
  iterate 7
    · go_enter Try.func107, Try.ntmps107
      go_wp2
      all_goals go_ret
      all_goals first | exact ⟨rfl, rfl⟩ | exact ⟨by simp_all [cmpV], rfl⟩
  have hv := Lib.hid (cmpV_other how a b h)
  obtain ⟨h2, h3, h4, h5, h6, h7, h8⟩ := h
  go_enter Try.func107, Try.ntmps107
  go_wp2
  all_goals go_ret
  all_goals rw [hv.out]
  all_goals exact ⟨rfl, rfl⟩

def inV (n low high : Int) : Bool := decide (low ≤ n) && decide (n ≤ high)
theorem in_any (n low high : Int) (w : World) : Calls Try.prog 86 #[.int .i64 n, .int .i64 low, .int .i64 high] w fun e w' => e = .returned (.bool (inV n low high)) ∧ w = w' := by
  by_cases h1 : low ≤ n
  · have hv := Lib.hid (show inV n low high = decide (n ≤ high) by simp [inV, h1])
    go_enter Try.func86, Try.ntmps86
    go_wp2
    all_goals go_ret
    all_goals rw [hv.out]
    all_goals exact ⟨by simp_all, rfl⟩
  · have hv := Lib.hid (show inV n low high = false by simp [inV, h1])
    go_enter Try.func86, Try.ntmps86
    go_wp2
    all_goals go_ret
    all_goals rw [hv.out]
    all_goals exact ⟨by simp_all, rfl⟩
def outV (x : Int) : Bool := decide (x < 0) || decide (65536 < x)
theorem outside_any (x : Int) (w : World) : Calls Try.prog 88 #[.int .i32 x] w fun e w' => e = .returned (.bool (outV x)) ∧ w = w' := by
  by_cases h1 : x < 0
  · have hv := Lib.hid (show outV x = true by simp [outV, h1])
    go_enter Try.func88, Try.ntmps88
    go_wp2
    all_goals go_ret
    all_goals rw [hv.out]
    all_goals exact ⟨by simp_all, rfl⟩
  · have hv := Lib.hid (show outV x = decide (65536 < x) by simp [outV, h1])
    go_enter Try.func88, Try.ntmps88
    go_wp2
    all_goals go_ret
    all_goals rw [hv.out]
    all_goals exact ⟨by simp_all, rfl⟩
end Go.Proofs.Ytgdcdkajicgliaa
