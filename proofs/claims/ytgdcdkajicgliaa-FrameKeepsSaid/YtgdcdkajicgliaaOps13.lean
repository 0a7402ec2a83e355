/- Contract of the document's factor. Conditions: each theorem's own premises. -/
import Derived.Test.YtgdcdkajicgliaaOps12
namespace Go.Proofs.Ytgdcdkajicgliaa
open Go.RowKit
set_option linter.unusedVariables false
set_option maxRecDepth 100000
set_option linter.unusedSimpArgs false

theorem heap_three (w : World) (A B C : Obj) : ∃ w3, ((w.alloc A).alloc B).alloc C = w3 ∧ w3.heap[w.heap.size]? = some A ∧ w3.heap[w.heap.size + 1]? = some B ∧ w3.heap[w.heap.size + 1 + 1]? = some C ∧ Ext w w3 :=
  ⟨_, rfl, heap_first _ _ _ _, heap_second _ _ _ _, heap_third _ _ _ _, (((Ext.refl _).alloc _).alloc _).alloc _⟩
set_option maxHeartbeats 8000000 in
set_option maxRecDepth 20000 in
theorem rfactor_any (f : Int) (ch : Nat) (hc : ch < 4) (h0 : 1 ≤ f) (h1 : f ≤ 15) (s d k : V4) (w : World) :
    Calls Try.prog 127 #[.int .i64 f, .int .i64 (ch : Int), .agg s.C.toArray, .agg d.C.toArray, .agg k.C.toArray] w fun e w' => e = .returned (.int .i32 (factorV f ch s d k)) ∧ Ext w w' := by
  obtain ⟨w3, hw3, hs, hd, hk, hx⟩ := heap_three w (.cells s.C.toArray 26) (.cells d.C.toArray 26) (.cells k.C.toArray 26)
  have s0 := VAt.at hs ch hc
  have d0 := VAt.at hd ch hc
  have k0 := VAt.at hk ch hc
  have s3 := (VAt.cell hs).2.2.2
  have d3 := (VAt.cell hd).2.2.2
  have k3 := (VAt.cell hk).2.2.2
  have ls := heap_lt hs
  have ld := heap_lt hd
  have lk := heap_lt hk
  have HX := Lib.hid hx
  have HW := Lib.hid hw3
  have hc4 : (ch : Int) < 4 := by omega
  clear hs hd hk hx hw3
  have hcs := f_cases h0 h1
  clear h0 h1
  rcases hcs with rfl | rfl | rfl | rfl | rfl | rfl | rfl | rfl | rfl | rfl | rfl | rfl | rfl | rfl | rfl
  · go_enter Try.func127, Try.ntmps127
    go_upto_region 1 with fail
    rw [HW.out]
    generalize w.heap.size = b0 at *
    go_wp2_with (go_at_call 129; refine (rsub_any _ _ _).mono ?_; rintro _ _ ⟨rfl, rfl⟩)
    all_goals go_ret
    exact ⟨rfl, HX.out⟩
  · go_enter Try.func127, Try.ntmps127
    go_upto_region 1 with fail
    rw [HW.out]
    generalize w.heap.size = b0 at *
    go_wp2_with (go_at_call 129; refine (rsub_any _ _ _).mono ?_; rintro _ _ ⟨rfl, rfl⟩)
    all_goals go_ret
    exact ⟨rfl, HX.out⟩
  · go_enter Try.func127, Try.ntmps127
    go_upto_region 1 with fail
    rw [HW.out]
    generalize w.heap.size = b0 at *
    go_wp2_with (go_at_call 129; refine (rsub_any _ _ _).mono ?_; rintro _ _ ⟨rfl, rfl⟩)
    all_goals go_ret
    exact ⟨rfl, HX.out⟩
  · go_enter Try.func127, Try.ntmps127
    go_upto_region 1 with fail
    rw [HW.out]
    generalize w.heap.size = b0 at *
    go_wp2_with (go_at_call 129; refine (rsub_any _ _ _).mono ?_; rintro _ _ ⟨rfl, rfl⟩)
    all_goals go_ret
    exact ⟨rfl, HX.out⟩
  · go_enter Try.func127, Try.ntmps127
    go_upto_region 1 with fail
    rw [HW.out]
    generalize w.heap.size = b0 at *
    go_wp2_with (go_at_call 129; refine (rsub_any _ _ _).mono ?_; rintro _ _ ⟨rfl, rfl⟩)
    all_goals go_ret
    exact ⟨rfl, HX.out⟩
  · go_enter Try.func127, Try.ntmps127
    go_upto_region 1 with fail
    rw [HW.out]
    generalize w.heap.size = b0 at *
    go_wp2_with (go_at_call 129; refine (rsub_any _ _ _).mono ?_; rintro _ _ ⟨rfl, rfl⟩)
    all_goals go_ret
    exact ⟨rfl, HX.out⟩
  · go_enter Try.func127, Try.ntmps127
    go_upto_region 1 with fail
    rw [HW.out]
    generalize w.heap.size = b0 at *
    go_wp2_with (go_at_call 129; refine (rsub_any _ _ _).mono ?_; rintro _ _ ⟨rfl, rfl⟩)
    all_goals go_ret
    exact ⟨rfl, HX.out⟩
  · go_enter Try.func127, Try.ntmps127
    go_upto_region 1 with fail
    rw [HW.out]
    generalize w.heap.size = b0 at *
    go_wp2_with (go_at_call 129; refine (rsub_any _ _ _).mono ?_; rintro _ _ ⟨rfl, rfl⟩)
    all_goals go_ret
    exact ⟨rfl, HX.out⟩
  · go_enter Try.func127, Try.ntmps127
    go_upto_region 1 with fail
    rw [HW.out]
    generalize w.heap.size = b0 at *
    go_wp2_with (go_at_call 129; refine (rsub_any _ _ _).mono ?_; rintro _ _ ⟨rfl, rfl⟩)
    all_goals go_ret
    exact ⟨rfl, HX.out⟩
  · go_enter Try.func127, Try.ntmps127
    go_upto_region 1 with fail
    rw [HW.out]
    generalize w.heap.size = b0 at *
    go_wp2_with (go_at_call 129; refine (rsub_any _ _ _).mono ?_; rintro _ _ ⟨rfl, rfl⟩)
    all_goals go_ret
    exact ⟨rfl, HX.out⟩
  · go_enter Try.func127, Try.ntmps127
    go_upto_region 1 with fail
    rw [HW.out]
    generalize w.heap.size = b0 at *
    go_wp2_with (go_at_call 129; refine (rsub_any _ _ _).mono ?_; rintro _ _ ⟨rfl, rfl⟩)
    all_goals go_ret
    exact ⟨rfl, HX.out⟩
  · go_enter Try.func127, Try.ntmps127
    go_upto_region 1 with fail
    rw [HW.out]
    generalize w.heap.size = b0 at *
    go_wp2_with (go_at_call 129; refine (rsub_any _ _ _).mono ?_; rintro _ _ ⟨rfl, rfl⟩)
    all_goals go_ret
    exact ⟨rfl, HX.out⟩
  · go_enter Try.func127, Try.ntmps127
    go_upto_region 1 with fail
    rw [HW.out]
    generalize w.heap.size = b0 at *
    go_wp2_with (go_at_call 129; refine (rsub_any _ _ _).mono ?_; rintro _ _ ⟨rfl, rfl⟩)
    all_goals go_ret
    exact ⟨rfl, HX.out⟩
  · go_enter Try.func127, Try.ntmps127
    go_upto_region 1 with fail
    rw [HW.out]
    generalize w.heap.size = b0 at *
    go_wp2_with (go_at_call 129; refine (rsub_any _ _ _).mono ?_; rintro _ _ ⟨rfl, rfl⟩)
    all_goals go_ret
    exact ⟨rfl, HX.out⟩
  · have HC3 : Hid (factorV 15 ch s d k = if ch = 3 then 65536 else min s.d (subV 65536 d.d)) := Lib.hid rfl
    by_cases hc3 : ch = 3
    · subst hc3
      go_enter Try.func127, Try.ntmps127
      go_upto_region 1 with fail
      rw [HW.out]
      generalize w.heap.size = b0 at *
      go_wp2
      all_goals go_ret
      exact ⟨rfl, HX.out⟩
    · have hn3 : ((ch : Int) == 3) = false := by simp; omega
      rw [HC3.out, if_neg hc3]
      clear HC3
      go_enter Try.func127, Try.ntmps127
      go_upto_region 1 with fail
      rw [HW.out]
      generalize w.heap.size = b0 at *
      go_upto_region 6 with fail
      go_quiet (first | (go_at_call 129; refine quiet_same (rsub_any _ _ _)) | (go_at_call 124; refine quiet_same (rmin_any _ _ _)))
      go_wp2
      go_ret
      exact ⟨rfl, HX.out.drewN _⟩
end Go.Proofs.Ytgdcdkajicgliaa
