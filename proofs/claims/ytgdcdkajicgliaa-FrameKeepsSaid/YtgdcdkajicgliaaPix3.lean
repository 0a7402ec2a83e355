/- Contracts of pixel's find, grey, Size; the document's Size. Conditions: each theorem's own premises. -/
import Derived.Test.YtgdcdkajicgliaaPix2
namespace Go.Proofs.Ytgdcdkajicgliaa
open Go.RowKit
set_option linter.unusedVariables false
set_option maxRecDepth 100000

theorem results_cell2 {P : Program} {fn : Func} {a t : Tmp} {T : TypeId} (h : fn.results = #[.cell a T, .tmp t]) (tmps : Array Value) (w : World) (x : Addr) (v : Value) (hp : tmps.getD a undef = .pointer (some x)) (hl : (loadVar T x).run P w = .ok v w) :
    (results fn tmps).run P w = .ok (.tuple #[v, tmps.getD t undef]) w := by
  have hp' : tmps[a]?.getD undef = .pointer (some x) := by rw [← hp]; simp
  simp [results, h, hp', hl, asAddr]
theorem zero_format (w : World) : (zeroValue 159).run Try.prog w = .ok (.agg #[.int .i64 0, .slice none 0 0, .int .i32 0, .int .i32 0, .int .i32 0, .int .i32 0]) w := by kernel_rfl
theorem info_format : (Try.prog.info? 159).map (·.size) = some 6 := by kernel_rfl

set_option maxHeartbeats 1000000 in
theorem find_1 (w : World) : Calls Try.prog 85 #[.int .i64 1] w fun e w' => ∃ c, e = .returned (.tuple #[.agg #[.int .i64 4, .slice (some ⟨c, 0, none⟩) 4 4, .int .i32 0, .int .i32 0, .int .i32 0, .int .i32 0], .bool true]) ∧ w'.heap[c]? = some (.cells (chC 1) 173 (0, 0)) ∧ w.heap.size ≤ c ∧ Ext w w' := by
  have hz := zero_format
  have hfo := Lib.hid (formats_any (w.alloc (.cells #[.int .i64 0, .slice none 0 0, .int .i32 0, .int .i32 0, .int .i32 0, .int .i32 0] 159)))
  go_enter Try.func85, Try.ntmps85
  go_wp2_with (first | (go_at_call 114; refine hfo.out.mono ?_; rintro e w1 ⟨b, c, rfl, hb, hc, hcw, hx⟩; have hblk := hx.heap (heap_alloc_new _ _); have hch := Lib.hid (hc 1 (by decide) (by decide)); have hcn := hcw 1; have k0 : w1.cell? ⟨b, 6, none⟩ = some (.int .i64 4) := cell_of_heap hb rfl; have k1 : w1.cell? ⟨b, 7, none⟩ = some (.slice (some ⟨c 1, 0, none⟩) 4 4) := cell_of_heap hb rfl; have k2 : w1.cell? ⟨b, 8, none⟩ = some (.int .i32 0) := cell_of_heap hb rfl; have k3 : w1.cell? ⟨b, 9, none⟩ = some (.int .i32 0) := cell_of_heap hb rfl; have k4 : w1.cell? ⟨b, 10, none⟩ = some (.int .i32 0) := cell_of_heap hb rfl; have k5 : w1.cell? ⟨b, 11, none⟩ = some (.int .i32 0) := cell_of_heap hb rfl; clear hb hc hcw) | (refine wpList_store_whole rfl 159 _ _ rfl w.heap.size #[.int .i64 4, .slice (some ⟨c 1, 0, none⟩) 4 4, .int .i32 0, .int .i32 0, .int .i32 0, .int .i32 0] rfl rfl _ 159 hblk rfl info_format (by simp [Value.oneCell']) ?_; intro w2 hw2 hc2))
  have hload := run_loadVar_whole (P := Try.prog) 159 _ hw2 Try.underlying159 rfl info_format
  refine bodyPost_ret (results_cell2 rfl _ _ _ _ rfl hload) rfl ?_
  rw [World.size_alloc] at hcn
  exact ⟨c 1, rfl, hc2.heap hch.out (by simp; omega), by omega, ((((Ext.refl w).alloc _).trans hx)).chgTrans hc2 (by simp)⟩

set_option maxHeartbeats 1000000 in
theorem find_2 (w : World) : Calls Try.prog 85 #[.int .i64 2] w fun e w' => ∃ c, e = .returned (.tuple #[.agg #[.int .i64 2, .slice (some ⟨c, 0, none⟩) 3 3, .int .i32 0, .int .i32 0, .int .i32 0, .int .i32 65536], .bool true]) ∧ w'.heap[c]? = some (.cells (chC 2) 173 (0, 0)) ∧ w.heap.size ≤ c ∧ Ext w w' := by
  have hz := zero_format
  have hfo := Lib.hid (formats_any (w.alloc (.cells #[.int .i64 0, .slice none 0 0, .int .i32 0, .int .i32 0, .int .i32 0, .int .i32 0] 159)))
  go_enter Try.func85, Try.ntmps85
  go_wp2_with (first | (go_at_call 114; refine hfo.out.mono ?_; rintro e w1 ⟨b, c, rfl, hb, hc, hcw, hx⟩; have hblk := hx.heap (heap_alloc_new _ _); have hch := Lib.hid (hc 2 (by decide) (by decide)); have hcn := hcw 2; have k0 : w1.cell? ⟨b, 12, none⟩ = some (.int .i64 2) := cell_of_heap hb rfl; have k1 : w1.cell? ⟨b, 13, none⟩ = some (.slice (some ⟨c 2, 0, none⟩) 3 3) := cell_of_heap hb rfl; have k2 : w1.cell? ⟨b, 14, none⟩ = some (.int .i32 0) := cell_of_heap hb rfl; have k3 : w1.cell? ⟨b, 15, none⟩ = some (.int .i32 0) := cell_of_heap hb rfl; have k4 : w1.cell? ⟨b, 16, none⟩ = some (.int .i32 0) := cell_of_heap hb rfl; have k5 : w1.cell? ⟨b, 17, none⟩ = some (.int .i32 65536) := cell_of_heap hb rfl; clear hb hc hcw) | (refine wpList_store_whole rfl 159 _ _ rfl w.heap.size #[.int .i64 2, .slice (some ⟨c 2, 0, none⟩) 3 3, .int .i32 0, .int .i32 0, .int .i32 0, .int .i32 65536] rfl rfl _ 159 hblk rfl info_format (by simp [Value.oneCell']) ?_; intro w2 hw2 hc2))
  have hload := run_loadVar_whole (P := Try.prog) 159 _ hw2 Try.underlying159 rfl info_format
  refine bodyPost_ret (results_cell2 rfl _ _ _ _ rfl hload) rfl ?_
  rw [World.size_alloc] at hcn
  exact ⟨c 2, rfl, hc2.heap hch.out (by simp; omega), by omega, ((((Ext.refl w).alloc _).trans hx)).chgTrans hc2 (by simp)⟩

set_option maxHeartbeats 1000000 in
theorem find_3 (w : World) : Calls Try.prog 85 #[.int .i64 3] w fun e w' => ∃ c, e = .returned (.tuple #[.agg #[.int .i64 2, .slice (some ⟨c, 0, none⟩) 4 4, .int .i32 0, .int .i32 0, .int .i32 0, .int .i32 0], .bool true]) ∧ w'.heap[c]? = some (.cells (chC 3) 173 (0, 0)) ∧ w.heap.size ≤ c ∧ Ext w w' := by
  have hz := zero_format
  have hfo := Lib.hid (formats_any (w.alloc (.cells #[.int .i64 0, .slice none 0 0, .int .i32 0, .int .i32 0, .int .i32 0, .int .i32 0] 159)))
  go_enter Try.func85, Try.ntmps85
  go_wp2_with (first | (go_at_call 114; refine hfo.out.mono ?_; rintro e w1 ⟨b, c, rfl, hb, hc, hcw, hx⟩; have hblk := hx.heap (heap_alloc_new _ _); have hch := Lib.hid (hc 3 (by decide) (by decide)); have hcn := hcw 3; have k0 : w1.cell? ⟨b, 18, none⟩ = some (.int .i64 2) := cell_of_heap hb rfl; have k1 : w1.cell? ⟨b, 19, none⟩ = some (.slice (some ⟨c 3, 0, none⟩) 4 4) := cell_of_heap hb rfl; have k2 : w1.cell? ⟨b, 20, none⟩ = some (.int .i32 0) := cell_of_heap hb rfl; have k3 : w1.cell? ⟨b, 21, none⟩ = some (.int .i32 0) := cell_of_heap hb rfl; have k4 : w1.cell? ⟨b, 22, none⟩ = some (.int .i32 0) := cell_of_heap hb rfl; have k5 : w1.cell? ⟨b, 23, none⟩ = some (.int .i32 0) := cell_of_heap hb rfl; clear hb hc hcw) | (refine wpList_store_whole rfl 159 _ _ rfl w.heap.size #[.int .i64 2, .slice (some ⟨c 3, 0, none⟩) 4 4, .int .i32 0, .int .i32 0, .int .i32 0, .int .i32 0] rfl rfl _ 159 hblk rfl info_format (by simp [Value.oneCell']) ?_; intro w2 hw2 hc2))
  have hload := run_loadVar_whole (P := Try.prog) 159 _ hw2 Try.underlying159 rfl info_format
  refine bodyPost_ret (results_cell2 rfl _ _ _ _ rfl hload) rfl ?_
  rw [World.size_alloc] at hcn
  exact ⟨c 3, rfl, hc2.heap hch.out (by simp; omega), by omega, ((((Ext.refl w).alloc _).trans hx)).chgTrans hc2 (by simp)⟩

set_option maxHeartbeats 1000000 in
theorem find_4 (w : World) : Calls Try.prog 85 #[.int .i64 4] w fun e w' => ∃ c, e = .returned (.tuple #[.agg #[.int .i64 2, .slice (some ⟨c, 0, none⟩) 4 4, .int .i32 0, .int .i32 0, .int .i32 0, .int .i32 0], .bool true]) ∧ w'.heap[c]? = some (.cells (chC 4) 173 (0, 0)) ∧ w.heap.size ≤ c ∧ Ext w w' := by
  have hz := zero_format
  have hfo := Lib.hid (formats_any (w.alloc (.cells #[.int .i64 0, .slice none 0 0, .int .i32 0, .int .i32 0, .int .i32 0, .int .i32 0] 159)))
  go_enter Try.func85, Try.ntmps85
  go_wp2_with (first | (go_at_call 114; refine hfo.out.mono ?_; rintro e w1 ⟨b, c, rfl, hb, hc, hcw, hx⟩; have hblk := hx.heap (heap_alloc_new _ _); have hch := Lib.hid (hc 4 (by decide) (by decide)); have hcn := hcw 4; have k0 : w1.cell? ⟨b, 24, none⟩ = some (.int .i64 2) := cell_of_heap hb rfl; have k1 : w1.cell? ⟨b, 25, none⟩ = some (.slice (some ⟨c 4, 0, none⟩) 4 4) := cell_of_heap hb rfl; have k2 : w1.cell? ⟨b, 26, none⟩ = some (.int .i32 0) := cell_of_heap hb rfl; have k3 : w1.cell? ⟨b, 27, none⟩ = some (.int .i32 0) := cell_of_heap hb rfl; have k4 : w1.cell? ⟨b, 28, none⟩ = some (.int .i32 0) := cell_of_heap hb rfl; have k5 : w1.cell? ⟨b, 29, none⟩ = some (.int .i32 0) := cell_of_heap hb rfl; clear hb hc hcw) | (refine wpList_store_whole rfl 159 _ _ rfl w.heap.size #[.int .i64 2, .slice (some ⟨c 4, 0, none⟩) 4 4, .int .i32 0, .int .i32 0, .int .i32 0, .int .i32 0] rfl rfl _ 159 hblk rfl info_format (by simp [Value.oneCell']) ?_; intro w2 hw2 hc2))
  have hload := run_loadVar_whole (P := Try.prog) 159 _ hw2 Try.underlying159 rfl info_format
  refine bodyPost_ret (results_cell2 rfl _ _ _ _ rfl hload) rfl ?_
  rw [World.size_alloc] at hcn
  exact ⟨c 4, rfl, hc2.heap hch.out (by simp; omega), by omega, ((((Ext.refl w).alloc _).trans hx)).chgTrans hc2 (by simp)⟩

set_option maxHeartbeats 1000000 in
theorem find_5 (w : World) : Calls Try.prog 85 #[.int .i64 5] w fun e w' => ∃ c, e = .returned (.tuple #[.agg #[.int .i64 1, .slice (some ⟨c, 0, none⟩) 1 1, .int .i32 0, .int .i32 0, .int .i32 0, .int .i32 65536], .bool true]) ∧ w'.heap[c]? = some (.cells (chC 5) 173 (0, 0)) ∧ w.heap.size ≤ c ∧ Ext w w' := by
  have hz := zero_format
  have hfo := Lib.hid (formats_any (w.alloc (.cells #[.int .i64 0, .slice none 0 0, .int .i32 0, .int .i32 0, .int .i32 0, .int .i32 0] 159)))
  go_enter Try.func85, Try.ntmps85
  go_wp2_with (first | (go_at_call 114; refine hfo.out.mono ?_; rintro e w1 ⟨b, c, rfl, hb, hc, hcw, hx⟩; have hblk := hx.heap (heap_alloc_new _ _); have hch := Lib.hid (hc 5 (by decide) (by decide)); have hcn := hcw 5; have k0 : w1.cell? ⟨b, 30, none⟩ = some (.int .i64 1) := cell_of_heap hb rfl; have k1 : w1.cell? ⟨b, 31, none⟩ = some (.slice (some ⟨c 5, 0, none⟩) 1 1) := cell_of_heap hb rfl; have k2 : w1.cell? ⟨b, 32, none⟩ = some (.int .i32 0) := cell_of_heap hb rfl; have k3 : w1.cell? ⟨b, 33, none⟩ = some (.int .i32 0) := cell_of_heap hb rfl; have k4 : w1.cell? ⟨b, 34, none⟩ = some (.int .i32 0) := cell_of_heap hb rfl; have k5 : w1.cell? ⟨b, 35, none⟩ = some (.int .i32 65536) := cell_of_heap hb rfl; clear hb hc hcw) | (refine wpList_store_whole rfl 159 _ _ rfl w.heap.size #[.int .i64 1, .slice (some ⟨c 5, 0, none⟩) 1 1, .int .i32 0, .int .i32 0, .int .i32 0, .int .i32 65536] rfl rfl _ 159 hblk rfl info_format (by simp [Value.oneCell']) ?_; intro w2 hw2 hc2))
  have hload := run_loadVar_whole (P := Try.prog) 159 _ hw2 Try.underlying159 rfl info_format
  refine bodyPost_ret (results_cell2 rfl _ _ _ _ rfl hload) rfl ?_
  rw [World.size_alloc] at hcn
  exact ⟨c 5, rfl, hc2.heap hch.out (by simp; omega), by omega, ((((Ext.refl w).alloc _).trans hx)).chgTrans hc2 (by simp)⟩

set_option maxHeartbeats 1000000 in
theorem find_6 (w : World) : Calls Try.prog 85 #[.int .i64 6] w fun e w' => ∃ c, e = .returned (.tuple #[.agg #[.int .i64 1, .slice (some ⟨c, 0, none⟩) 1 1, .int .i32 0, .int .i32 0, .int .i32 0, .int .i32 0], .bool true]) ∧ w'.heap[c]? = some (.cells (chC 6) 173 (0, 0)) ∧ w.heap.size ≤ c ∧ Ext w w' := by
  have hz := zero_format
  have hfo := Lib.hid (formats_any (w.alloc (.cells #[.int .i64 0, .slice none 0 0, .int .i32 0, .int .i32 0, .int .i32 0, .int .i32 0] 159)))
  go_enter Try.func85, Try.ntmps85
  go_wp2_with (first | (go_at_call 114; refine hfo.out.mono ?_; rintro e w1 ⟨b, c, rfl, hb, hc, hcw, hx⟩; have hblk := hx.heap (heap_alloc_new _ _); have hch := Lib.hid (hc 6 (by decide) (by decide)); have hcn := hcw 6; have k0 : w1.cell? ⟨b, 36, none⟩ = some (.int .i64 1) := cell_of_heap hb rfl; have k1 : w1.cell? ⟨b, 37, none⟩ = some (.slice (some ⟨c 6, 0, none⟩) 1 1) := cell_of_heap hb rfl; have k2 : w1.cell? ⟨b, 38, none⟩ = some (.int .i32 0) := cell_of_heap hb rfl; have k3 : w1.cell? ⟨b, 39, none⟩ = some (.int .i32 0) := cell_of_heap hb rfl; have k4 : w1.cell? ⟨b, 40, none⟩ = some (.int .i32 0) := cell_of_heap hb rfl; have k5 : w1.cell? ⟨b, 41, none⟩ = some (.int .i32 0) := cell_of_heap hb rfl; clear hb hc hcw) | (refine wpList_store_whole rfl 159 _ _ rfl w.heap.size #[.int .i64 1, .slice (some ⟨c 6, 0, none⟩) 1 1, .int .i32 0, .int .i32 0, .int .i32 0, .int .i32 0] rfl rfl _ 159 hblk rfl info_format (by simp [Value.oneCell']) ?_; intro w2 hw2 hc2))
  have hload := run_loadVar_whole (P := Try.prog) 159 _ hw2 Try.underlying159 rfl info_format
  refine bodyPost_ret (results_cell2 rfl _ _ _ _ rfl hload) rfl ?_
  rw [World.size_alloc] at hcn
  exact ⟨c 6, rfl, hc2.heap hch.out (by simp; omega), by omega, ((((Ext.refl w).alloc _).trans hx)).chgTrans hc2 (by simp)⟩

set_option maxHeartbeats 1000000 in
theorem find_7 (w : World) : Calls Try.prog 85 #[.int .i64 7] w fun e w' => ∃ c, e = .returned (.tuple #[.agg #[.int .i64 2, .slice (some ⟨c, 0, none⟩) 2 2, .int .i32 0, .int .i32 0, .int .i32 0, .int .i32 0], .bool true]) ∧ w'.heap[c]? = some (.cells (chC 7) 173 (0, 0)) ∧ w.heap.size ≤ c ∧ Ext w w' := by
  have hz := zero_format
  have hfo := Lib.hid (formats_any (w.alloc (.cells #[.int .i64 0, .slice none 0 0, .int .i32 0, .int .i32 0, .int .i32 0, .int .i32 0] 159)))
  go_enter Try.func85, Try.ntmps85
  go_wp2_with (first | (go_at_call 114; refine hfo.out.mono ?_; rintro e w1 ⟨b, c, rfl, hb, hc, hcw, hx⟩; have hblk := hx.heap (heap_alloc_new _ _); have hch := Lib.hid (hc 7 (by decide) (by decide)); have hcn := hcw 7; have k0 : w1.cell? ⟨b, 42, none⟩ = some (.int .i64 2) := cell_of_heap hb rfl; have k1 : w1.cell? ⟨b, 43, none⟩ = some (.slice (some ⟨c 7, 0, none⟩) 2 2) := cell_of_heap hb rfl; have k2 : w1.cell? ⟨b, 44, none⟩ = some (.int .i32 0) := cell_of_heap hb rfl; have k3 : w1.cell? ⟨b, 45, none⟩ = some (.int .i32 0) := cell_of_heap hb rfl; have k4 : w1.cell? ⟨b, 46, none⟩ = some (.int .i32 0) := cell_of_heap hb rfl; have k5 : w1.cell? ⟨b, 47, none⟩ = some (.int .i32 0) := cell_of_heap hb rfl; clear hb hc hcw) | (refine wpList_store_whole rfl 159 _ _ rfl w.heap.size #[.int .i64 2, .slice (some ⟨c 7, 0, none⟩) 2 2, .int .i32 0, .int .i32 0, .int .i32 0, .int .i32 0] rfl rfl _ 159 hblk rfl info_format (by simp [Value.oneCell']) ?_; intro w2 hw2 hc2))
  have hload := run_loadVar_whole (P := Try.prog) 159 _ hw2 Try.underlying159 rfl info_format
  refine bodyPost_ret (results_cell2 rfl _ _ _ _ rfl hload) rfl ?_
  rw [World.size_alloc] at hcn
  exact ⟨c 7, rfl, hc2.heap hch.out (by simp; omega), by omega, ((((Ext.refl w).alloc _).trans hx)).chgTrans hc2 (by simp)⟩

set_option maxHeartbeats 1000000 in
theorem find_bad (n : Int) (w : World) (h : n < 1 ∨ 8 ≤ n) : Calls Try.prog 85 #[.int .i64 n] w fun e w' => e = .returned (.tuple #[.agg #[.int .i64 0, .slice none 0 0, .int .i32 0, .int .i32 0, .int .i32 0, .int .i32 0], .bool false]) ∧ Ext w w' := by
  have hz := zero_format
  have hfo := Lib.hid (formats_any (w.alloc (.cells #[.int .i64 0, .slice none 0 0, .int .i32 0, .int .i32 0, .int .i32 0, .int .i32 0] 159)))
  by_cases h1 : n < 1
  all_goals (try have h2 : 8 ≤ n := by omega)
  all_goals clear h
  all_goals (
    go_enter Try.func85, Try.ntmps85
    go_wp2_with (first | (go_at_call 114; refine hfo.out.mono ?_; rintro e w1 ⟨b, c, rfl, hb, hc, hcw, hx⟩; have hblk := hx.heap (heap_alloc_new _ _); clear hb hc hcw) | (refine wpList_store_whole rfl 159 _ _ rfl w.heap.size #[.int .i64 0, .slice none 0 0, .int .i32 0, .int .i32 0, .int .i32 0, .int .i32 0] rfl rfl _ 159 hblk rfl info_format (by simp [Value.oneCell']) ?_; intro w2 hw2 hc2))
    have hload := run_loadVar_whole (P := Try.prog) 159 _ hw2 Try.underlying159 rfl info_format
    refine bodyPost_ret (results_cell2 rfl _ _ _ _ rfl hload) rfl ?_
    exact ⟨rfl, ((((Ext.refl w).alloc _).trans hx)).chgTrans hc2 (by simp)⟩)

theorem grey_any (n : Int) (w : World) : Calls Try.prog 117 #[.int .i64 n] w fun e w' => e = .returned (.bool (n == 5 || n == 7)) ∧ w = w' := by
  go_enter Try.func117, Try.ntmps117
  go_wp2
  all_goals go_ret
  all_goals exact ⟨by simp_all, rfl⟩

/-- A pixel's bytes. -/
def szV (n : Int) : Int := if n = 1 then 4 else if n = 5 ∨ n = 6 then 1 else if 2 ≤ n ∧ n ≤ 7 then 2 else 0
theorem refSize_any (n : Int) (w : World) : Calls Try.prog 28 #[.int .i64 n] w fun e w' => e = .returned (.int .i64 (szV n)) ∧ w = w' := by
  have key : n = 1 ∨ n = 2 ∨ n = 3 ∨ n = 4 ∨ n = 5 ∨ n = 6 ∨ n = 7 ∨ (n < 1 ∨ 8 ≤ n) := by omega
  rcases key with rfl | rfl | rfl | rfl | rfl | rfl | rfl | hn
  iterate 7
    · go_enter Try.func28, Try.ntmps28
      go_wp2
      go_ret
      exact ⟨rfl, rfl⟩
  have h1 : (n == 1) = false := by simp; omega
  have h5 : (n == 5) = false := by simp; omega
  have h6 : (n == 6) = false := by simp; omega
  have hz := Lib.hid (show szV n = 0 by unfold szV; rw [if_neg (by omega), if_neg (by omega), if_neg (by omega)])
  by_cases h2 : n < 1
  · have h3 : ¬ 2 ≤ n := by omega
    clear hn
    go_enter Try.func28, Try.ntmps28
    go_wp2
    go_ret
    rw [hz.out]
    exact ⟨rfl, rfl⟩
  · have h3 : ¬ n ≤ 7 := by omega
    clear hn
    go_enter Try.func28, Try.ntmps28
    go_wp2
    go_ret
    rw [hz.out]
    exact ⟨rfl, rfl⟩

theorem Size_any (n : Int) (w : World) : Calls Try.prog 57 #[.int .i64 n] w fun e w' => e = .returned (.int .i64 (szV n)) ∧ Ext w w' := by
  have hz := zero_format
  have key : n = 1 ∨ n = 2 ∨ n = 3 ∨ n = 4 ∨ n = 5 ∨ n = 6 ∨ n = 7 ∨ (n < 1 ∨ 8 ≤ n) := by omega
  rcases key with rfl | rfl | rfl | rfl | rfl | rfl | rfl | hn
  · go_enter Try.func57, Try.ntmps57
    go_wp2_with (go_at_call 85; refine (find_1 _).mono ?_; rintro e w1 ⟨c, rfl, hc, hcw, hx⟩; clear hc hcw)
    go_ret
    exact ⟨rfl, by repeat first | exact hx | refine Ext.setCell ?_ hx.size _ | refine Ext.alloc ?_ _⟩
  · go_enter Try.func57, Try.ntmps57
    go_wp2_with (go_at_call 85; refine (find_2 _).mono ?_; rintro e w1 ⟨c, rfl, hc, hcw, hx⟩; clear hc hcw)
    go_ret
    exact ⟨rfl, by repeat first | exact hx | refine Ext.setCell ?_ hx.size _ | refine Ext.alloc ?_ _⟩
  · go_enter Try.func57, Try.ntmps57
    go_wp2_with (go_at_call 85; refine (find_3 _).mono ?_; rintro e w1 ⟨c, rfl, hc, hcw, hx⟩; clear hc hcw)
    go_ret
    exact ⟨rfl, by repeat first | exact hx | refine Ext.setCell ?_ hx.size _ | refine Ext.alloc ?_ _⟩
  · go_enter Try.func57, Try.ntmps57
    go_wp2_with (go_at_call 85; refine (find_4 _).mono ?_; rintro e w1 ⟨c, rfl, hc, hcw, hx⟩; clear hc hcw)
    go_ret
    exact ⟨rfl, by repeat first | exact hx | refine Ext.setCell ?_ hx.size _ | refine Ext.alloc ?_ _⟩
  · go_enter Try.func57, Try.ntmps57
    go_wp2_with (go_at_call 85; refine (find_5 _).mono ?_; rintro e w1 ⟨c, rfl, hc, hcw, hx⟩; clear hc hcw)
    go_ret
    exact ⟨rfl, by repeat first | exact hx | refine Ext.setCell ?_ hx.size _ | refine Ext.alloc ?_ _⟩
  · go_enter Try.func57, Try.ntmps57
    go_wp2_with (go_at_call 85; refine (find_6 _).mono ?_; rintro e w1 ⟨c, rfl, hc, hcw, hx⟩; clear hc hcw)
    go_ret
    exact ⟨rfl, by repeat first | exact hx | refine Ext.setCell ?_ hx.size _ | refine Ext.alloc ?_ _⟩
  · go_enter Try.func57, Try.ntmps57
    go_wp2_with (go_at_call 85; refine (find_7 _).mono ?_; rintro e w1 ⟨c, rfl, hc, hcw, hx⟩; clear hc hcw)
    go_ret
    exact ⟨rfl, by repeat first | exact hx | refine Ext.setCell ?_ hx.size _ | refine Ext.alloc ?_ _⟩
  · have hs := Lib.hid (show szV n = 0 by unfold szV; rw [if_neg (by omega), if_neg (by omega), if_neg (by omega)])
    have hf := Lib.hid (fun w => find_bad n w hn)
    go_enter Try.func57, Try.ntmps57
    go_wp2_with (go_at_call 85; refine (hf.out _).mono ?_; rintro e w1 ⟨rfl, hx⟩)
    go_ret
    rw [hs.out]
    exact ⟨rfl, by repeat first | exact hx | refine Ext.setCell ?_ hx.size _ | refine Ext.alloc ?_ _⟩
end Go.Proofs.Ytgdcdkajicgliaa
