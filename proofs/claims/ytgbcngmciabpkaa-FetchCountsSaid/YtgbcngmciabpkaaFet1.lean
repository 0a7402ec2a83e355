/- Contracts of fix.Of, the kinds' shapes, Width, between, and the document's. Conditions: each theorem's own premises. -/
import Derived.Test.YtgbcngmciabpkaaRows
import Derived.Test.YtgbcngmciabpkaaOctR
import Derived.Test.YtgbcngmciabpkaaFold
import Derived.Deep.DeepCutAuto
namespace Go.Proofs.Ytgbcngmciabpkaa
open Go.RowKit
set_option linter.unusedVariables false

def rawV (n : Int) : Int := min (max n (-2147483648)) 2147483647
theorem rawV_in (n : Int) : IntKind.i32.wrap (rawV n) = rawV n := IntWalk.i32_in _ ⟨by unfold rawV; omega, by unfold rawV; omega⟩
theorem cut_any (n l h : Int) (w : World) : Calls Try.prog 46 #[.int .i64 n, .int .i64 l, .int .i64 h] w fun e w' => e = .returned (.int .i64 (min (max n l) h)) ∧ w = w' := by
  go_enter Try.func46, Try.ntmps46
  go_wp2
  all_goals go_ret
  all_goals refine ⟨ret_int ?_, rfl⟩
  all_goals first | omega | (split at * <;> omega) | (unfold rawV; omega)
theorem cuti_any (n l h : Int) (w : World) : Calls Try.prog 47 #[.int .i64 n, .int .i64 l, .int .i64 h] w fun e w' => e = .returned (.int .i64 (min (max n l) h)) ∧ w = w' := by
  go_enter Try.func47, Try.ntmps47
  go_wp2
  all_goals go_ret
  all_goals refine ⟨ret_int ?_, rfl⟩
  all_goals first | omega | (split at * <;> omega) | (unfold rawV; omega)
theorem fraw_any (n : Int) (w : World) : Calls Try.prog 30 #[.int .i64 n] w fun e w' => e = .returned (.int .i32 (rawV n)) ∧ w = w' := by
  go_enter Try.func30, Try.ntmps30
  go_wp2_with fail
  refine (cut_any _ _ _ _).mono ?_
  rintro _ _ ⟨rfl, rfl⟩
  go_wp2
  all_goals go_ret
  all_goals exact ⟨rfl, rfl⟩
/-- The number of a whole number. -/
def ofV (n : Int) : Int := rawV (n * 65536)
theorem fof_any (n : Int) (w : World) (h1 : -100000 ≤ n) (h2 : n ≤ 100000) : Calls Try.prog 31 #[.int .i64 n] w fun e w' => e = .returned (.int .i32 (ofV n)) ∧ w = w' := by
  obtain ⟨m, hm⟩ : ∃ m, min (max n (-65536)) 65536 = m := ⟨_, rfl⟩
  have HM := Lib.hid hm
  have hm1 : -65536 ≤ m := by omega
  have hm2 : m ≤ 65536 := by omega
  clear hm
  go_enter Try.func31, Try.ntmps31
  go_wp2_with (first | (go_at_call 47; refine (cuti_any _ _ _ _).mono ?_; rw [HM.out]; rintro _ _ ⟨rfl, rfl⟩) | (go_at_call 30; refine (fraw_any _ _).mono ?_; rintro _ _ ⟨rfl, rfl⟩))
  go_ret
  exact ⟨ret_int (by have := HM.out; unfold ofV rawV; omega), rfl⟩
theorem rraw_any (n : Int) (w : World) : Calls Try.prog 48 #[.int .i64 n] w fun e w' => e = .returned (.int .i32 (rawV n)) ∧ w = w' := by
  go_enter Try.func48, Try.ntmps48
  go_wp2
  all_goals go_ret
  all_goals refine ⟨ret_int ?_, rfl⟩
  all_goals unfold rawV
  all_goals omega
theorem rof_any (n : Int) (w : World) (h1 : -100000 ≤ n) (h2 : n ≤ 100000) : Calls Try.prog 33 #[.int .i64 n] w fun e w' => e = .returned (.int .i32 (ofV n)) ∧ w = w' := by
  go_enter Try.func33, Try.ntmps33
  go_wp2_with (go_at_call 48; refine (rraw_any _ _).mono ?_; rintro _ _ ⟨rfl, rfl⟩)
  all_goals go_ret
  all_goals refine ⟨ret_int ?_, rfl⟩
  all_goals unfold ofV rawV
  all_goals omega

def wdR (k : Int) : Int := if k = 1 ∨ k = 2 then 1 else if k = 3 ∨ k = 4 then 2 else if k = 5 then 4 else 0
def loR (k : Int) : Int := if k = 1 then -128 else if k = 3 then -32768 else if k = 5 then -2147483648 else 0
def hiR (k : Int) : Int := if k = 1 then 127 else if k = 2 then 255 else if k = 3 then 32767 else if k = 4 then 65535 else if k = 5 then 2147483647 else 0
def rdR (k : Int) : Value :=
  if k = 1 then .func (.func 36) #[] #[] else if k = 2 then .func (.func 38) #[] #[] else if k = 3 then .func (.func 40) #[] #[] else if k = 4 then .func (.func 42) #[] #[] else if k = 5 then .func (.func 44) #[] #[] else .nilFunc
def shC (k : Int) : List Value := [.int .i64 (wdR k), .int .i64 (loR k), .int .i64 (hiR k), rdR k]
theorem kinds (k : Int) : k = 1 ∨ k = 2 ∨ k = 3 ∨ k = 4 ∨ k = 5 ∨ (k ≠ 1 ∧ k ≠ 2 ∧ k ≠ 3 ∧ k ≠ 4 ∧ k ≠ 5) := by omega
theorem kinds_no {k : Int} (h : k ≠ 1 ∧ k ≠ 2 ∧ k ≠ 3 ∧ k ≠ 4 ∧ k ≠ 5) : wdR k = 0 ∧ loR k = 0 ∧ hiR k = 0 ∧ rdR k = .nilFunc := by
  obtain ⟨h1, h2, h3, h4, h5⟩ := h
  simp [wdR, loR, hiR, rdR, h1, h2, h3, h4, h5]
set_option maxRecDepth 100000 in
theorem of_any (k : Int) (w : World) : Calls Try.prog 29 #[.int .i64 k] w fun e w' => e = .returned (.agg (shC k).toArray) ∧ Ext w w' := by
  rcases kinds k with rfl | rfl | rfl | rfl | rfl | hk
  · go_enter Try.func29, Try.ntmps29
    go_wp2_with (refine wpList_store_whole rfl 69 _ _ rfl w.heap.size _ rfl rfl _ 69 (heap_alloc_new _ _) rfl (by kernel_rfl) (by simp [Value.oneCell']) ?_; intro w2 hw2 hc2)
    refine bodyPost_ret (results_cell1 rfl _ _ _ _ rfl (run_loadVar_whole 69 _ hw2 Try.underlying69 rfl (by kernel_rfl))) rfl ?_
    exact ⟨rfl, ((Ext.refl _).alloc _).chgTrans hc2 (by simp)⟩
  · go_enter Try.func29, Try.ntmps29
    go_wp2_with (refine wpList_store_whole rfl 69 _ _ rfl w.heap.size _ rfl rfl _ 69 (heap_alloc_new _ _) rfl (by kernel_rfl) (by simp [Value.oneCell']) ?_; intro w2 hw2 hc2)
    refine bodyPost_ret (results_cell1 rfl _ _ _ _ rfl (run_loadVar_whole 69 _ hw2 Try.underlying69 rfl (by kernel_rfl))) rfl ?_
    exact ⟨rfl, ((Ext.refl _).alloc _).chgTrans hc2 (by simp)⟩
  · go_enter Try.func29, Try.ntmps29
    go_wp2_with (refine wpList_store_whole rfl 69 _ _ rfl w.heap.size _ rfl rfl _ 69 (heap_alloc_new _ _) rfl (by kernel_rfl) (by simp [Value.oneCell']) ?_; intro w2 hw2 hc2)
    refine bodyPost_ret (results_cell1 rfl _ _ _ _ rfl (run_loadVar_whole 69 _ hw2 Try.underlying69 rfl (by kernel_rfl))) rfl ?_
    exact ⟨rfl, ((Ext.refl _).alloc _).chgTrans hc2 (by simp)⟩
  · go_enter Try.func29, Try.ntmps29
    go_wp2_with (refine wpList_store_whole rfl 69 _ _ rfl w.heap.size _ rfl rfl _ 69 (heap_alloc_new _ _) rfl (by kernel_rfl) (by simp [Value.oneCell']) ?_; intro w2 hw2 hc2)
    refine bodyPost_ret (results_cell1 rfl _ _ _ _ rfl (run_loadVar_whole 69 _ hw2 Try.underlying69 rfl (by kernel_rfl))) rfl ?_
    exact ⟨rfl, ((Ext.refl _).alloc _).chgTrans hc2 (by simp)⟩
  · go_enter Try.func29, Try.ntmps29
    go_wp2_with (refine wpList_store_whole rfl 69 _ _ rfl w.heap.size _ rfl rfl _ 69 (heap_alloc_new _ _) rfl (by kernel_rfl) (by simp [Value.oneCell']) ?_; intro w2 hw2 hc2)
    refine bodyPost_ret (results_cell1 rfl _ _ _ _ rfl (run_loadVar_whole 69 _ hw2 Try.underlying69 rfl (by kernel_rfl))) rfl ?_
    exact ⟨rfl, ((Ext.refl _).alloc _).chgTrans hc2 (by simp)⟩
  · obtain ⟨e1, e2, e3, e4⟩ := kinds_no hk
    have H1 := Lib.hid (show shC k = [.int .i64 0, .int .i64 0, .int .i64 0, .nilFunc] by unfold shC; rw [e1, e2, e3, e4])
    obtain ⟨h1, h2, h3, h4, h5⟩ := hk
    have g1 : (k == 1) = false := by simpa using h1
    have g2 : (k == 2) = false := by simpa using h2
    have g3 : (k == 3) = false := by simpa using h3
    have g4 : (k == 4) = false := by simpa using h4
    have g5 : (k == 5) = false := by simpa using h5
    clear h1 h2 h3 h4 h5 e1 e2 e3 e4
    go_enter Try.func29, Try.ntmps29
    go_wp2_with (refine wpList_store_whole rfl 69 _ _ rfl w.heap.size _ rfl rfl _ 69 (heap_alloc_new _ _) rfl (by kernel_rfl) (by simp [Value.oneCell']) ?_; intro w2 hw2 hc2)
    refine bodyPost_ret (results_cell1 rfl _ _ _ _ rfl (run_loadVar_whole 69 _ hw2 Try.underlying69 rfl (by kernel_rfl))) rfl ?_
    exact ⟨by rw [H1.out], ((Ext.refl _).alloc _).chgTrans hc2 (by simp)⟩
theorem wd_any (k : Int) (w : World) : Calls Try.prog 18 #[.int .i64 k] w fun e w' => e = .returned (.int .i64 (wdR k)) ∧ w = w' := by
  rcases kinds k with rfl | rfl | rfl | rfl | rfl | hk
  all_goals try
    (go_enter Try.func18, Try.ntmps18
     go_wp2
     go_ret
     exact ⟨rfl, rfl⟩)
  obtain ⟨e1, -, -, -⟩ := kinds_no hk
  have H1 := Lib.hid e1
  obtain ⟨h1, h2, h3, h4, h5⟩ := hk
  have g1 : (k == 1) = false := by simpa using h1
  have g2 : (k == 2) = false := by simpa using h2
  have g3 : (k == 3) = false := by simpa using h3
  have g4 : (k == 4) = false := by simpa using h4
  have g5 : (k == 5) = false := by simpa using h5
  clear h1 h2 h3 h4 h5 e1
  go_enter Try.func18, Try.ntmps18
  go_wp2
  go_ret
  exact ⟨ret_int H1.out.symm, rfl⟩
theorem ends_any (k : Int) (hk : 0 < wdR k) (w : World) : Calls Try.prog 32 #[.int .i64 k] w fun e w' => e = .returned (.tuple #[.int .i64 (loR k), .int .i64 (hiR k)]) ∧ w = w' := by
  rcases kinds k with rfl | rfl | rfl | rfl | rfl | hk'
  all_goals try
    (go_enter Try.func32, Try.ntmps32
     go_wp2
     go_ret2
     exact ⟨rfl, rfl⟩)
  rw [(kinds_no hk').1] at hk
  cases hk
theorem between_any (n l h : Int) (w : World) : Calls Try.prog 26 #[.int .i64 n, .int .i64 l, .int .i64 h] w fun e w' => e = .returned (.bool (decide (l ≤ n) && decide (n ≤ h))) ∧ w = w' := by
  go_enter Try.func26, Try.ntmps26
  go_wp2
  all_goals go_ret
  all_goals refine ⟨ret_bool ?_, rfl⟩
  all_goals (first | (simp_all; done) | (simp; omega))
end Go.Proofs.Ytgbcngmciabpkaa
