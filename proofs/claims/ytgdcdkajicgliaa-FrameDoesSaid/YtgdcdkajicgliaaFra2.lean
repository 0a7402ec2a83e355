/- Contracts of frame's at, find, within, cell. Conditions: each theorem's own premises. -/
import Derived.Test.YtgdcdkajicgliaaFra1
import Derived.Test.YtgdcdkajicgliaaOps17
import Derived.Deep.RegionHeld3
import Derived.Deep.RegionLaw
namespace Go.Proofs.Ytgdcdkajicgliaa
open Go.RowKit
set_option linter.unusedVariables false
set_option maxRecDepth 100000

def inP (W H : Nat) (x y : Int) : Bool := decide (0 ≤ x) && (decide (0 ≤ y) && (decide (x < W) && decide (y < H)))
theorem inP_true {W H : Nat} {x y : Int} (h : inP W H x y = true) : 0 ≤ x ∧ 0 ≤ y ∧ x < W ∧ y < H := by
  unfold inP at h
  simpa using h
theorem inP_false {W H : Nat} {x y : Int} (h : inP W H x y = false) : x < 0 ∨ (0 ≤ x ∧ y < 0) ∨ (0 ≤ x ∧ 0 ≤ y ∧ (W : Int) ≤ x) ∨ (0 ≤ x ∧ 0 ≤ y ∧ x < W ∧ (H : Int) ≤ y) := by
  unfold inP at h
  by_cases h1 : 0 ≤ x
  · by_cases h2 : 0 ≤ y
    · by_cases h3 : x < W
      · by_cases h4 : y < H
        · rw [decide_eq_true h1, decide_eq_true h2, decide_eq_true h3, decide_eq_true h4] at h; cases h
        · omega
      · omega
    · omega
  · omega
set_option maxHeartbeats 1000000 in
theorem at_out (W H : Nat) (x y : Int) (h : inP W H x y = false) (w : World) : Calls Try.prog 61 #[.agg #[.int .i64 W, .int .i64 H], .int .i64 x, .int .i64 y] w fun e w' => ∃ i, e = .returned (.tuple #[.int .i64 i, .bool false]) ∧ Ext w w' := by
  rcases inP_false h with h1 | ⟨h1, h2⟩ | ⟨h1, h2, h3⟩ | ⟨h1, h2, h3, h4⟩
  · have g1 : decide (0 ≤ x) = false := decide_eq_false (by omega)
    clear h1 h
    go_enter Try.func61, Try.ntmps61
    go_upto_region 1 with fail
    obtain ⟨w1, hw1, hh, hx1⟩ : ∃ w1, w.alloc (.cells #[.int .i64 W, .int .i64 H] 117) = w1 ∧ w1.heap[w.heap.size]? = some (.cells #[.int .i64 W, .int .i64 H] 117 (0, 0)) ∧ Ext w w1 := ⟨_, rfl, heap_alloc_new _ _, (Ext.refl _).alloc _⟩
    rw [hw1]
    have c0 : w1.cell? ⟨w.heap.size, 0, none⟩ = some (.int .i64 W) := cell_of_heap hh rfl
    have c1 : w1.cell? ⟨w.heap.size, 1, none⟩ = some (.int .i64 H) := cell_of_heap hh rfl
    have n1 := heap_lt hh
    have HX := Lib.hid hx1
    clear hh hx1 hw1
    go_quiet (fail)
    go_wp2_with fail
    go_ret2
    exact ⟨_, rfl, HX.out.drewN _⟩
  · have g1 : decide (0 ≤ x) = true := decide_eq_true (by omega)
    have g2 : decide (0 ≤ y) = false := decide_eq_false (by omega)
    clear h1 h2 h
    go_enter Try.func61, Try.ntmps61
    go_upto_region 1 with fail
    obtain ⟨w1, hw1, hh, hx1⟩ : ∃ w1, w.alloc (.cells #[.int .i64 W, .int .i64 H] 117) = w1 ∧ w1.heap[w.heap.size]? = some (.cells #[.int .i64 W, .int .i64 H] 117 (0, 0)) ∧ Ext w w1 := ⟨_, rfl, heap_alloc_new _ _, (Ext.refl _).alloc _⟩
    rw [hw1]
    have c0 : w1.cell? ⟨w.heap.size, 0, none⟩ = some (.int .i64 W) := cell_of_heap hh rfl
    have c1 : w1.cell? ⟨w.heap.size, 1, none⟩ = some (.int .i64 H) := cell_of_heap hh rfl
    have n1 := heap_lt hh
    have HX := Lib.hid hx1
    clear hh hx1 hw1
    go_quiet (fail)
    go_wp2_with fail
    go_ret2
    exact ⟨_, rfl, HX.out.drewN _⟩
  · have g1 : decide (0 ≤ x) = true := decide_eq_true (by omega)
    have g2 : decide (0 ≤ y) = true := decide_eq_true (by omega)
    have g3 : decide (x < (W : Int)) = false := decide_eq_false (by omega)
    clear h1 h2 h3 h
    go_enter Try.func61, Try.ntmps61
    go_upto_region 1 with fail
    obtain ⟨w1, hw1, hh, hx1⟩ : ∃ w1, w.alloc (.cells #[.int .i64 W, .int .i64 H] 117) = w1 ∧ w1.heap[w.heap.size]? = some (.cells #[.int .i64 W, .int .i64 H] 117 (0, 0)) ∧ Ext w w1 := ⟨_, rfl, heap_alloc_new _ _, (Ext.refl _).alloc _⟩
    rw [hw1]
    have c0 : w1.cell? ⟨w.heap.size, 0, none⟩ = some (.int .i64 W) := cell_of_heap hh rfl
    have c1 : w1.cell? ⟨w.heap.size, 1, none⟩ = some (.int .i64 H) := cell_of_heap hh rfl
    have n1 := heap_lt hh
    have HX := Lib.hid hx1
    clear hh hx1 hw1
    go_quiet (fail)
    go_wp2_with fail
    go_ret2
    exact ⟨_, rfl, HX.out.drewN _⟩
  · have g1 : decide (0 ≤ x) = true := decide_eq_true (by omega)
    have g2 : decide (0 ≤ y) = true := decide_eq_true (by omega)
    have g3 : decide (x < (W : Int)) = true := decide_eq_true (by omega)
    have g4 : decide (y < (H : Int)) = false := decide_eq_false (by omega)
    clear h1 h2 h3 h4 h
    go_enter Try.func61, Try.ntmps61
    go_upto_region 1 with fail
    obtain ⟨w1, hw1, hh, hx1⟩ : ∃ w1, w.alloc (.cells #[.int .i64 W, .int .i64 H] 117) = w1 ∧ w1.heap[w.heap.size]? = some (.cells #[.int .i64 W, .int .i64 H] 117 (0, 0)) ∧ Ext w w1 := ⟨_, rfl, heap_alloc_new _ _, (Ext.refl _).alloc _⟩
    rw [hw1]
    have c0 : w1.cell? ⟨w.heap.size, 0, none⟩ = some (.int .i64 W) := cell_of_heap hh rfl
    have c1 : w1.cell? ⟨w.heap.size, 1, none⟩ = some (.int .i64 H) := cell_of_heap hh rfl
    have n1 := heap_lt hh
    have HX := Lib.hid hx1
    clear hh hx1 hw1
    go_quiet (fail)
    go_wp2_with fail
    go_ret2
    exact ⟨_, rfl, HX.out.drewN _⟩
set_option maxHeartbeats 1000000 in
theorem at_in (W H x y : Nat) (hx : x < W) (hy : y < H) (hW : W ≤ 64) (hH : H ≤ 64) (w : World) : Calls Try.prog 61 #[.agg #[.int .i64 W, .int .i64 H], .int .i64 x, .int .i64 y] w fun e w' => e = .returned (.tuple #[.int .i64 (y * W + x : Nat), .bool true]) ∧ Ext w w' := by
  have hm : y * W ≤ 64 * 64 := Nat.mul_le_mul (by omega) hW
  have s1 : IntKind.i64.wrap ((y : Int) * (W : Int)) = ((y * W : Nat) : Int) := by rw [← Int.natCast_mul]; exact IntWalk.i64_in _ (by omega)
  have s2 : IntKind.i64.wrap (((y * W : Nat) : Int) + (x : Int)) = ((y * W + x : Nat) : Int) := by rw [← Int.natCast_add]; exact IntWalk.i64_in _ (by omega)
  generalize y * W + x = R at *
  generalize y * W = M at *
  have g1 : decide ((0 : Int) ≤ (x : Int)) = true := decide_eq_true (by omega)
  have g2 : decide ((0 : Int) ≤ (y : Int)) = true := decide_eq_true (by omega)
  have g3 : decide ((x : Int) < (W : Int)) = true := decide_eq_true (by omega)
  have g4 : decide ((y : Int) < (H : Int)) = true := decide_eq_true (by omega)
  have g5 : decide (x < W) = true := decide_eq_true (by omega)
  have g6 : decide (y < H) = true := decide_eq_true (by omega)
  clear hx hy hW hH hm
  go_enter Try.func61, Try.ntmps61
  go_upto_region 1 with fail
  obtain ⟨w1, hw1, hh, hx1⟩ : ∃ w1, w.alloc (.cells #[.int .i64 W, .int .i64 H] 117) = w1 ∧ w1.heap[w.heap.size]? = some (.cells #[.int .i64 W, .int .i64 H] 117 (0, 0)) ∧ Ext w w1 := ⟨_, rfl, heap_alloc_new _ _, (Ext.refl _).alloc _⟩
  rw [hw1]
  have c0 : w1.cell? ⟨w.heap.size, 0, none⟩ = some (.int .i64 W) := cell_of_heap hh rfl
  have c1 : w1.cell? ⟨w.heap.size, 1, none⟩ = some (.int .i64 H) := cell_of_heap hh rfl
  have n1 := heap_lt hh
  have HX := Lib.hid hx1
  clear hh hx1 hw1
  go_quiet (fail)
  go_wp2_with fail
  go_ret2
  exact ⟨rfl, HX.out.drewN _⟩
/-- Is a number one of n from some number on? -/
def wiV (i fr n : Int) : Bool := decide (fr ≤ i) && (decide (0 < n) && ltU i fr n)
set_option maxHeartbeats 1000000 in
theorem within_any (i fr n : Int) (w : World) : Calls Try.prog 90 #[.int .i64 i, .int .i64 fr, .int .i64 n] w fun e w' => e = .returned (.bool (wiV i fr n)) ∧ w = w' := by
  by_cases h1 : fr ≤ i
  · by_cases h2 : 0 < n
    · have hv := Lib.hid (show wiV i fr n = ltU i fr n by simp [wiV, h1, h2])
      have hv2 := Lib.hid (show ltU i fr n = decide (IntKind.u64.wrap (IntKind.u64.wrap i - IntKind.u64.wrap fr) < IntKind.u64.wrap n) from rfl)
      go_enter Try.func90, Try.ntmps90
      go_wp2
      all_goals go_ret
      all_goals rw [hv.out, hv2.out]
      all_goals exact ⟨by simp_all, rfl⟩
    · have hv := Lib.hid (show wiV i fr n = false by simp [wiV, h2])
      go_enter Try.func90, Try.ntmps90
      go_wp2
      all_goals go_ret
      all_goals rw [hv.out]
      all_goals exact ⟨rfl, rfl⟩
  · have hv := Lib.hid (show wiV i fr n = false by simp [wiV, h1])
    go_enter Try.func90, Try.ntmps90
    go_wp2
    all_goals go_ret
    all_goals rw [hv.out]
    all_goals exact ⟨rfl, rfl⟩
end Go.Proofs.Ytgdcdkajicgliaa
