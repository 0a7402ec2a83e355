/- Contracts of fetch.Number and the document's. Conditions: each theorem's own premises. -/
import Derived.Test.YtgbcngmciabpkaaFet1
namespace Go.Proofs.Ytgbcngmciabpkaa
open Go.RowKit
set_option linter.unusedVariables false

theorem shC_one (k : Int) : (shC k).toArray.all (·.oneCell') = true := by
  unfold shC rdR
  rcases kinds k with rfl | rfl | rfl | rfl | rfl | ⟨h1, h2, h3, h4, h5⟩
  all_goals simp_all [Value.oneCell']
theorem fld_sh (a b c d : Value) (w : World) : (Instr.field 69 (.agg #[a, b, c, d]) 0).run Try.prog w = .ok a w := by kernel_rfl
attribute [local go_sem] fld_sh
set_option maxRecDepth 100000 in
theorem width_any (k : Int) (w : World) : Calls Try.prog 17 #[.int .i64 k] w fun e w' => e = .returned (.int .i64 (wdR k)) ∧ Ext w w' := by
  go_enter Try.func17, Try.ntmps17
  go_wp2_with (go_at_call 29; refine (of_any _ _).mono ?_; rintro _ w1 ⟨rfl, hx1⟩; unfold shC)
  go_ret
  exact ⟨rfl, hx1⟩
/-- The number that a normalized one stands for. -/
def normV (h n : Int) : Int := if n < 0 then max (-((-n * 131072 + h) / (2 * h))) (-65536) else (n * 131072 + h) / (2 * h)
/-- What Number answers. -/
def numR (k : Int) (nm : Bool) (n : Int) : Int × Int :=
  if wdR k = 0 ∨ n < loR k ∨ hiR k < n then (0, 2) else if k = 5 then (n, 0) else if nm then (normV (hiR k) n, 0) else (ofV n, 0)
theorem num_no {k : Int} (nm : Bool) {n : Int} (h : wdR k = 0 ∨ n < loR k ∨ hiR k < n) : numR k nm n = (0, 2) := by unfold numR; rw [if_pos h]
theorem num_fix (nm : Bool) {n : Int} (h1 : -2147483648 ≤ n) (h2 : n ≤ 2147483647) : numR 5 nm n = (n, 0) := by
  unfold numR
  rw [if_neg, if_pos rfl]
  show ¬ ((4 : Int) = 0 ∨ n < -2147483648 ∨ 2147483647 < n)
  omega
theorem num_of {k n : Int} (hw : wdR k ≠ 0) (h1 : loR k ≤ n) (h2 : n ≤ hiR k) (h5 : k ≠ 5) : numR k false n = (ofV n, 0) := by
  unfold numR
  rw [if_neg (by omega), if_neg h5]
  rfl
theorem num_norm {k n : Int} (hw : wdR k ≠ 0) (h1 : loR k ≤ n) (h2 : n ≤ hiR k) (h5 : k ≠ 5) : numR k true n = (normV (hiR k) n, 0) := by
  unfold numR
  rw [if_neg (by omega), if_neg h5]
  rfl
theorem tdiv_neg' {a b : Int} (ha : a ≤ 0) : a.tdiv b = -((-a) / b) := by
  obtain ⟨c, rfl⟩ : ∃ c, a = -c := ⟨-a, by omega⟩
  rw [Int.neg_tdiv, Int.neg_neg, Int.tdiv_eq_ediv_of_nonneg (by omega)]
theorem norm_t (n h d : Int) (hh : 0 ≤ h) : (n * 131072 - h).tdiv d = -((-n * 131072 + h) / d) ∨ 0 ≤ n := by
  rcases Int.lt_or_le n 0 with hn | hn
  · left
    rw [tdiv_neg' (by omega), show -(n * 131072 - h) = -n * 131072 + h by omega]
  · exact .inr hn
theorem ret_num {a b c : Int} (h : a = b) : Ending.returned (.tuple #[.int .i32 a, .int .i64 c]) = .returned (.tuple #[.int .i32 b, .int .i64 c]) := by rw [h]
theorem wrap32_in (e : Int) (h1 : -70000 ≤ e) (h2 : e ≤ 70000) : wrap32 (-e) = -e := by unfold wrap32; omega
theorem hi_in (k : Int) (h5 : k ≠ 5) : -32768 ≤ loR k ∧ hiR k ≤ 65535 := by
  unfold loR hiR
  rcases kinds k with rfl | rfl | rfl | rfl | rfl | ⟨h1, h2, h3, h4, h5'⟩
  all_goals simp_all
set_option maxRecDepth 100000 in
theorem num_bad0 (nm : Bool) (n : Int) (w : World) (k : Int) (h : wdR k = 0) : Calls Try.prog 15 #[.int .i64 k, .bool nm, .int .i64 n] w fun e w' => e = .returned (.tuple #[.int .i32 0, .int .i64 2]) ∧ Ext w w' := by
  have HH := Lib.hid h
  clear h
  go_enter Try.func15, Try.ntmps15
  go_upto_region 2 with (first | (go_at_call 29; refine (of_any _ _).mono ?_; rintro _ w1 ⟨rfl, hx1⟩; have HX1 := Lib.hid hx1; clear hx1) | (refine wpList_store_whole rfl 69 _ _ rfl w1.heap.size (shC k).toArray rfl rfl _ 69 (heap_alloc_new _ _) rfl (by kernel_rfl) (shC_one k) ?_; intro w2 hw2 hc2; have HC2 := Lib.hid hc2; have HW2 := Lib.hid hw2; clear hc2 hw2))
  have e0 : w2.cell? ⟨w1.heap.size, 0, none⟩ = some (.int .i64 (wdR k)) := cell_of_heap HW2.out rfl
  have e1 : w2.cell? ⟨w1.heap.size, 1, none⟩ = some (.int .i64 (loR k)) := cell_of_heap HW2.out rfl
  have e2 : w2.cell? ⟨w1.heap.size, 2, none⟩ = some (.int .i64 (hiR k)) := cell_of_heap HW2.out rfl
  have n1 := heap_lt HW2.out
  have HXX := Lib.hid (Ext.chgTrans (HX1.out.alloc _) HC2.out (by simp; exact HX1.out.size))
  clear HX1 HC2 HW2
  rw [HH.out] at e0
  go_wp2_with fail
  go_ret2
  exact ⟨rfl, HXX.out⟩
set_option maxRecDepth 100000 in
theorem num_bad1 (nm : Bool) (n : Int) (w : World) (k : Int) (h : 0 < wdR k) (h1 : n < loR k) : Calls Try.prog 15 #[.int .i64 k, .bool nm, .int .i64 n] w fun e w' => e = .returned (.tuple #[.int .i32 0, .int .i64 2]) ∧ Ext w w' := by
  have h0 : (wdR k == 0) = false := by simp; omega
  go_enter Try.func15, Try.ntmps15
  go_upto_region 2 with (first | (go_at_call 29; refine (of_any _ _).mono ?_; rintro _ w1 ⟨rfl, hx1⟩; have HX1 := Lib.hid hx1; clear hx1) | (refine wpList_store_whole rfl 69 _ _ rfl w1.heap.size (shC k).toArray rfl rfl _ 69 (heap_alloc_new _ _) rfl (by kernel_rfl) (shC_one k) ?_; intro w2 hw2 hc2; have HC2 := Lib.hid hc2; have HW2 := Lib.hid hw2; clear hc2 hw2))
  have e0 : w2.cell? ⟨w1.heap.size, 0, none⟩ = some (.int .i64 (wdR k)) := cell_of_heap HW2.out rfl
  have e1 : w2.cell? ⟨w1.heap.size, 1, none⟩ = some (.int .i64 (loR k)) := cell_of_heap HW2.out rfl
  have e2 : w2.cell? ⟨w1.heap.size, 2, none⟩ = some (.int .i64 (hiR k)) := cell_of_heap HW2.out rfl
  have n1 := heap_lt HW2.out
  have HXX := Lib.hid (Ext.chgTrans (HX1.out.alloc _) HC2.out (by simp; exact HX1.out.size))
  clear HX1 HC2 HW2
  generalize wdR k = W at *
  generalize loR k = L at *
  go_wp2_with fail
  go_ret2
  exact ⟨rfl, HXX.out⟩
set_option maxRecDepth 100000 in
theorem num_bad2 (nm : Bool) (n : Int) (w : World) (k : Int) (h : 0 < wdR k) (h1 : loR k ≤ n) (h2 : hiR k < n) : Calls Try.prog 15 #[.int .i64 k, .bool nm, .int .i64 n] w fun e w' => e = .returned (.tuple #[.int .i32 0, .int .i64 2]) ∧ Ext w w' := by
  have h0 : (wdR k == 0) = false := by simp; omega
  go_enter Try.func15, Try.ntmps15
  go_upto_region 2 with (first | (go_at_call 29; refine (of_any _ _).mono ?_; rintro _ w1 ⟨rfl, hx1⟩; have HX1 := Lib.hid hx1; clear hx1) | (refine wpList_store_whole rfl 69 _ _ rfl w1.heap.size (shC k).toArray rfl rfl _ 69 (heap_alloc_new _ _) rfl (by kernel_rfl) (shC_one k) ?_; intro w2 hw2 hc2; have HC2 := Lib.hid hc2; have HW2 := Lib.hid hw2; clear hc2 hw2))
  have e0 : w2.cell? ⟨w1.heap.size, 0, none⟩ = some (.int .i64 (wdR k)) := cell_of_heap HW2.out rfl
  have e1 : w2.cell? ⟨w1.heap.size, 1, none⟩ = some (.int .i64 (loR k)) := cell_of_heap HW2.out rfl
  have e2 : w2.cell? ⟨w1.heap.size, 2, none⟩ = some (.int .i64 (hiR k)) := cell_of_heap HW2.out rfl
  have n1 := heap_lt HW2.out
  have HXX := Lib.hid (Ext.chgTrans (HX1.out.alloc _) HC2.out (by simp; exact HX1.out.size))
  clear HX1 HC2 HW2
  generalize wdR k = W at *
  generalize loR k = L at *
  generalize hiR k = H at *
  go_wp2_with fail
  go_ret2
  exact ⟨rfl, HXX.out⟩
set_option maxRecDepth 100000 in
theorem num_five (nm : Bool) (n : Int) (w : World) (h1 : -2147483648 ≤ n) (h2 : n ≤ 2147483647) : Calls Try.prog 15 #[.int .i64 5, .bool nm, .int .i64 n] w fun e w' => e = .returned (.tuple #[.int .i32 (numR 5 nm n).1, .int .i64 (numR 5 nm n).2]) ∧ Ext w w' := by
  rw [num_fix nm h1 h2]
  have HR := Lib.hid (show rawV n = n by unfold rawV; omega)
  go_enter Try.func15, Try.ntmps15
  go_upto_region 2 with (first | (go_at_call 29; refine (of_any _ _).mono ?_; rintro _ w1 ⟨rfl, hx1⟩; have HX1 := Lib.hid hx1; clear hx1) | (refine wpList_store_whole rfl 69 _ _ rfl w1.heap.size (shC 5).toArray rfl rfl _ 69 (heap_alloc_new _ _) rfl (by kernel_rfl) (shC_one 5) ?_; intro w2 hw2 hc2; have HC2 := Lib.hid hc2; have HW2 := Lib.hid hw2; clear hc2 hw2))
  have e0 : w2.cell? ⟨w1.heap.size, 0, none⟩ = some (.int .i64 (wdR 5)) := cell_of_heap HW2.out rfl
  have e1 : w2.cell? ⟨w1.heap.size, 1, none⟩ = some (.int .i64 (loR 5)) := cell_of_heap HW2.out rfl
  have e2 : w2.cell? ⟨w1.heap.size, 2, none⟩ = some (.int .i64 (hiR 5)) := cell_of_heap HW2.out rfl
  have n1 := heap_lt HW2.out
  have HXX := Lib.hid (Ext.chgTrans (HX1.out.alloc _) HC2.out (by simp; exact HX1.out.size))
  clear HX1 HC2 HW2
  rw [show wdR 5 = 4 from rfl] at e0
  rw [show loR 5 = -2147483648 from rfl] at e1
  rw [show hiR 5 = 2147483647 from rfl] at e2
  go_wp2_with (go_at_call 30; refine (fraw_any _ _).mono ?_; rw [HR.out]; rintro _ _ ⟨rfl, rfl⟩)
  go_ret2
  exact ⟨rfl, HXX.out⟩
set_option maxRecDepth 100000 in
theorem num_whole (nm : Bool) (n : Int) (w : World) (k : Int) (h : 0 < wdR k) (h1 : loR k ≤ n) (h2 : n ≤ hiR k) (h5 : k ≠ 5) : Calls Try.prog 15 #[.int .i64 k, .bool false, .int .i64 n] w fun e w' => e = .returned (.tuple #[.int .i32 (ofV n), .int .i64 0]) ∧ Ext w w' := by
  have h0 : (wdR k == 0) = false := by simp; omega
  have h5' : (k == 5) = false := by simpa using h5
  have hb := hi_in k h5
  have hb1 := hb.1
  have hb2 := hb.2
  clear hb h5
  have hn1 : -100000 ≤ n := by omega
  have hn2 : n ≤ 100000 := by omega
  go_enter Try.func15, Try.ntmps15
  go_upto_region 2 with (first | (go_at_call 29; refine (of_any _ _).mono ?_; rintro _ w1 ⟨rfl, hx1⟩; have HX1 := Lib.hid hx1; clear hx1) | (refine wpList_store_whole rfl 69 _ _ rfl w1.heap.size (shC k).toArray rfl rfl _ 69 (heap_alloc_new _ _) rfl (by kernel_rfl) (shC_one k) ?_; intro w2 hw2 hc2; have HC2 := Lib.hid hc2; have HW2 := Lib.hid hw2; clear hc2 hw2))
  have e0 : w2.cell? ⟨w1.heap.size, 0, none⟩ = some (.int .i64 (wdR k)) := cell_of_heap HW2.out rfl
  have e1 : w2.cell? ⟨w1.heap.size, 1, none⟩ = some (.int .i64 (loR k)) := cell_of_heap HW2.out rfl
  have e2 : w2.cell? ⟨w1.heap.size, 2, none⟩ = some (.int .i64 (hiR k)) := cell_of_heap HW2.out rfl
  have n1 := heap_lt HW2.out
  have HXX := Lib.hid (Ext.chgTrans (HX1.out.alloc _) HC2.out (by simp; exact HX1.out.size))
  clear HX1 HC2 HW2
  generalize wdR k = W at *
  generalize loR k = L at *
  generalize hiR k = H at *
  go_wp2_with (go_at_call 31; refine (fof_any _ _ hn1 hn2).mono ?_; rintro _ _ ⟨rfl, rfl⟩)
  go_ret2
  exact ⟨rfl, HXX.out⟩
set_option maxRecDepth 100000 in
theorem num_norm1 (nm : Bool) (n : Int) (w : World) (h1 : -128 ≤ n) (h2 : n ≤ 127) : Calls Try.prog 15 #[.int .i64 1, .bool true, .int .i64 n] w fun e w' => e = .returned (.tuple #[.int .i32 (normV 127 n), .int .i64 0]) ∧ Ext w w' := by
  go_enter Try.func15, Try.ntmps15
  go_upto_region 2 with (first | (go_at_call 29; refine (of_any _ _).mono ?_; rintro _ w1 ⟨rfl, hx1⟩; have HX1 := Lib.hid hx1; clear hx1) | (refine wpList_store_whole rfl 69 _ _ rfl w1.heap.size (shC 1).toArray rfl rfl _ 69 (heap_alloc_new _ _) rfl (by kernel_rfl) (shC_one 1) ?_; intro w2 hw2 hc2; have HC2 := Lib.hid hc2; have HW2 := Lib.hid hw2; clear hc2 hw2))
  have e0 : w2.cell? ⟨w1.heap.size, 0, none⟩ = some (.int .i64 (wdR 1)) := cell_of_heap HW2.out rfl
  have e1 : w2.cell? ⟨w1.heap.size, 1, none⟩ = some (.int .i64 (loR 1)) := cell_of_heap HW2.out rfl
  have e2 : w2.cell? ⟨w1.heap.size, 2, none⟩ = some (.int .i64 (hiR 1)) := cell_of_heap HW2.out rfl
  have n1 := heap_lt HW2.out
  have HXX := Lib.hid (Ext.chgTrans (HX1.out.alloc _) HC2.out (by simp; exact HX1.out.size))
  clear HX1 HC2 HW2
  rw [show wdR 1 = 1 from rfl] at e0
  rw [show loR 1 = -128 from rfl] at e1
  rw [show hiR 1 = 127 from rfl] at e2
  by_cases hs : n < 0
  all_goals go_wp2_with fail
  all_goals go_ret2
  all_goals refine ⟨ret_num ?_, HXX.out⟩
  all_goals unfold normV
  all_goals have ht := norm_t n 127 254 (by decide)
  all_goals generalize (n * 131072 - 127).tdiv 254 = q at *
  all_goals obtain ⟨e, he, he1, he2⟩ : ∃ e, (-n * 131072 + 127) / 254 = e ∧ -70000 ≤ e ∧ e ≤ 70000 := ⟨_, rfl, by omega, by omega⟩
  all_goals rw [show (2 : Int) * 127 = 254 from rfl]
  all_goals rw [he] at ht ⊢
  all_goals rcases ht with ht | ht
  all_goals first
    | (have hq : wrap32 q = -e := (congrArg wrap32 ht).trans (wrap32_in e he1 he2)
       split <;> omega)
    | (split <;> omega)
set_option maxRecDepth 100000 in
theorem num_norm2 (nm : Bool) (n : Int) (w : World) (h1 : 0 ≤ n) (h2 : n ≤ 255) : Calls Try.prog 15 #[.int .i64 2, .bool true, .int .i64 n] w fun e w' => e = .returned (.tuple #[.int .i32 (normV 255 n), .int .i64 0]) ∧ Ext w w' := by
  go_enter Try.func15, Try.ntmps15
  go_upto_region 2 with (first | (go_at_call 29; refine (of_any _ _).mono ?_; rintro _ w1 ⟨rfl, hx1⟩; have HX1 := Lib.hid hx1; clear hx1) | (refine wpList_store_whole rfl 69 _ _ rfl w1.heap.size (shC 2).toArray rfl rfl _ 69 (heap_alloc_new _ _) rfl (by kernel_rfl) (shC_one 2) ?_; intro w2 hw2 hc2; have HC2 := Lib.hid hc2; have HW2 := Lib.hid hw2; clear hc2 hw2))
  have e0 : w2.cell? ⟨w1.heap.size, 0, none⟩ = some (.int .i64 (wdR 2)) := cell_of_heap HW2.out rfl
  have e1 : w2.cell? ⟨w1.heap.size, 1, none⟩ = some (.int .i64 (loR 2)) := cell_of_heap HW2.out rfl
  have e2 : w2.cell? ⟨w1.heap.size, 2, none⟩ = some (.int .i64 (hiR 2)) := cell_of_heap HW2.out rfl
  have n1 := heap_lt HW2.out
  have HXX := Lib.hid (Ext.chgTrans (HX1.out.alloc _) HC2.out (by simp; exact HX1.out.size))
  clear HX1 HC2 HW2
  rw [show wdR 2 = 1 from rfl] at e0
  rw [show loR 2 = 0 from rfl] at e1
  rw [show hiR 2 = 255 from rfl] at e2
  
  go_wp2_with fail
  go_ret2
  all_goals refine ⟨ret_num ?_, HXX.out⟩
  all_goals unfold normV
  all_goals have ht := norm_t n 255 510 (by decide)
  all_goals generalize (n * 131072 - 255).tdiv 510 = q at *
  all_goals obtain ⟨e, he, he1, he2⟩ : ∃ e, (-n * 131072 + 255) / 510 = e ∧ -70000 ≤ e ∧ e ≤ 70000 := ⟨_, rfl, by omega, by omega⟩
  all_goals rw [show (2 : Int) * 255 = 510 from rfl]
  all_goals rw [he] at ht ⊢
  all_goals rcases ht with ht | ht
  all_goals first
    | (have hq : wrap32 q = -e := (congrArg wrap32 ht).trans (wrap32_in e he1 he2)
       split <;> omega)
    | (split <;> omega)
set_option maxRecDepth 100000 in
theorem num_norm3 (nm : Bool) (n : Int) (w : World) (h1 : -32768 ≤ n) (h2 : n ≤ 32767) : Calls Try.prog 15 #[.int .i64 3, .bool true, .int .i64 n] w fun e w' => e = .returned (.tuple #[.int .i32 (normV 32767 n), .int .i64 0]) ∧ Ext w w' := by
  go_enter Try.func15, Try.ntmps15
  go_upto_region 2 with (first | (go_at_call 29; refine (of_any _ _).mono ?_; rintro _ w1 ⟨rfl, hx1⟩; have HX1 := Lib.hid hx1; clear hx1) | (refine wpList_store_whole rfl 69 _ _ rfl w1.heap.size (shC 3).toArray rfl rfl _ 69 (heap_alloc_new _ _) rfl (by kernel_rfl) (shC_one 3) ?_; intro w2 hw2 hc2; have HC2 := Lib.hid hc2; have HW2 := Lib.hid hw2; clear hc2 hw2))
  have e0 : w2.cell? ⟨w1.heap.size, 0, none⟩ = some (.int .i64 (wdR 3)) := cell_of_heap HW2.out rfl
  have e1 : w2.cell? ⟨w1.heap.size, 1, none⟩ = some (.int .i64 (loR 3)) := cell_of_heap HW2.out rfl
  have e2 : w2.cell? ⟨w1.heap.size, 2, none⟩ = some (.int .i64 (hiR 3)) := cell_of_heap HW2.out rfl
  have n1 := heap_lt HW2.out
  have HXX := Lib.hid (Ext.chgTrans (HX1.out.alloc _) HC2.out (by simp; exact HX1.out.size))
  clear HX1 HC2 HW2
  rw [show wdR 3 = 2 from rfl] at e0
  rw [show loR 3 = -32768 from rfl] at e1
  rw [show hiR 3 = 32767 from rfl] at e2
  by_cases hs : n < 0
  all_goals go_wp2_with fail
  all_goals go_ret2
  all_goals refine ⟨ret_num ?_, HXX.out⟩
  all_goals unfold normV
  all_goals have ht := norm_t n 32767 65534 (by decide)
  all_goals generalize (n * 131072 - 32767).tdiv 65534 = q at *
  all_goals obtain ⟨e, he, he1, he2⟩ : ∃ e, (-n * 131072 + 32767) / 65534 = e ∧ -70000 ≤ e ∧ e ≤ 70000 := ⟨_, rfl, by omega, by omega⟩
  all_goals rw [show (2 : Int) * 32767 = 65534 from rfl]
  all_goals rw [he] at ht ⊢
  all_goals rcases ht with ht | ht
  all_goals first
    | (have hq : wrap32 q = -e := (congrArg wrap32 ht).trans (wrap32_in e he1 he2)
       split <;> omega)
    | (split <;> omega)
set_option maxRecDepth 100000 in
theorem num_norm4 (nm : Bool) (n : Int) (w : World) (h1 : 0 ≤ n) (h2 : n ≤ 65535) : Calls Try.prog 15 #[.int .i64 4, .bool true, .int .i64 n] w fun e w' => e = .returned (.tuple #[.int .i32 (normV 65535 n), .int .i64 0]) ∧ Ext w w' := by
  go_enter Try.func15, Try.ntmps15
  go_upto_region 2 with (first | (go_at_call 29; refine (of_any _ _).mono ?_; rintro _ w1 ⟨rfl, hx1⟩; have HX1 := Lib.hid hx1; clear hx1) | (refine wpList_store_whole rfl 69 _ _ rfl w1.heap.size (shC 4).toArray rfl rfl _ 69 (heap_alloc_new _ _) rfl (by kernel_rfl) (shC_one 4) ?_; intro w2 hw2 hc2; have HC2 := Lib.hid hc2; have HW2 := Lib.hid hw2; clear hc2 hw2))
  have e0 : w2.cell? ⟨w1.heap.size, 0, none⟩ = some (.int .i64 (wdR 4)) := cell_of_heap HW2.out rfl
  have e1 : w2.cell? ⟨w1.heap.size, 1, none⟩ = some (.int .i64 (loR 4)) := cell_of_heap HW2.out rfl
  have e2 : w2.cell? ⟨w1.heap.size, 2, none⟩ = some (.int .i64 (hiR 4)) := cell_of_heap HW2.out rfl
  have n1 := heap_lt HW2.out
  have HXX := Lib.hid (Ext.chgTrans (HX1.out.alloc _) HC2.out (by simp; exact HX1.out.size))
  clear HX1 HC2 HW2
  rw [show wdR 4 = 2 from rfl] at e0
  rw [show loR 4 = 0 from rfl] at e1
  rw [show hiR 4 = 65535 from rfl] at e2
  
  go_wp2_with fail
  go_ret2
  all_goals refine ⟨ret_num ?_, HXX.out⟩
  all_goals unfold normV
  all_goals have ht := norm_t n 65535 131070 (by decide)
  all_goals generalize (n * 131072 - 65535).tdiv 131070 = q at *
  all_goals obtain ⟨e, he, he1, he2⟩ : ∃ e, (-n * 131072 + 65535) / 131070 = e ∧ -70000 ≤ e ∧ e ≤ 70000 := ⟨_, rfl, by omega, by omega⟩
  all_goals rw [show (2 : Int) * 65535 = 131070 from rfl]
  all_goals rw [he] at ht ⊢
  all_goals rcases ht with ht | ht
  all_goals first
    | (have hq : wrap32 q = -e := (congrArg wrap32 ht).trans (wrap32_in e he1 he2)
       split <;> omega)
    | (split <;> omega)
end Go.Proofs.Ytgbcngmciabpkaa
