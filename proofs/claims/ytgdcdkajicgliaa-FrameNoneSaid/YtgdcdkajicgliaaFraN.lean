/- Planes that are not there; Format, Has, find, Cell, Cost. Conditions: each theorem's own premises. -/
import Derived.Test.YtgdcdkajicgliaaFra7
import Derived.Deep.RegionWith
import Derived.Deep.DrawnRows
namespace Go.Proofs.Ytgdcdkajicgliaa
open Go.RowKit
set_option linter.unusedVariables false
set_option maxRecDepth 100000
set_option linter.unusedSimpArgs false

theorem sides_nil (w : World) : Calls Try.prog 22 #[.pointer none] w fun e w' => e = .returned (.tuple #[.int .i64 0, .int .i64 0]) ∧ w = w' := by
  go_enter Try.func22, Try.ntmps22
  go_wp2
  go_ret2
  exact ⟨rfl, rfl⟩
theorem has_nil (w : World) : Calls Try.prog 23 #[.pointer none] w fun e w' => e = .returned (.tuple #[.bool false, .bool false]) ∧ w = w' := by
  go_enter Try.func23, Try.ntmps23
  go_wp2
  go_ret2
  exact ⟨rfl, rfl⟩
theorem format_nil (w : World) : Calls Try.prog 25 #[.pointer none] w fun e w' => e = .returned (.int .i64 0) ∧ w = w' := by
  go_enter Try.func25, Try.ntmps25
  go_wp2
  go_ret
  exact ⟨rfl, rfl⟩
theorem bytes_nil (w : World) : Calls Try.prog 20 #[.pointer none] w fun e w' => e = .returned (.slice none 0 0) ∧ w = w' := by
  go_enter Try.func20, Try.ntmps20
  go_wp2
  go_ret
  exact ⟨rfl, rfl⟩
theorem copy_nil (w : World) : Calls Try.prog 18 #[.pointer none] w fun e w' => e = .returned (.pointer none) ∧ w = w' := by
  go_enter Try.func18, Try.ntmps18
  go_wp2
  go_ret
  exact ⟨rfl, rfl⟩
theorem find_nil (x y : Int) (w : World) : Calls Try.prog 64 #[.pointer none, .int .i64 x, .int .i64 y] w fun e w' => e = .returned (.tuple #[.int .i64 0, .int .i64 1]) ∧ w = w' := by
  go_enter Try.func64, Try.ntmps64
  go_wp2
  go_ret2
  exact ⟨rfl, rfl⟩
section
attribute [local go_sem ↓] Ld_V4 St_V4 Ld_Ce St_Ce Ld_St Ld_Sd
theorem zero_cell (w : World) : (zeroValue 45).run Try.prog w = .ok (.agg #[.int .i32 0, .int .i32 0, .int .i32 0, .int .i32 0, .int .i32 0, .int .i64 0]) w := by kernel_rfl
theorem cellp_none (q : Value) (x y n : Int) (hn : (n != 0) = true) (hf : ∀ w, Calls Try.prog 64 #[q, .int .i64 x, .int .i64 y] w fun e w' => e = .returned (.tuple #[.int .i64 0, .int .i64 n]) ∧ Ext w w') (w : World) : Calls Try.prog 16 #[q, .int .i64 x, .int .i64 y] w fun e w' => e = .returned (.tuple #[.agg ceZ.C.toArray, .int .i64 n]) ∧ Ext w w' := by
  have HF := Lib.hid hf
  clear hf
  have hz := zero_cell
  go_enter Try.func16, Try.ntmps16
  go_upto_region 1 with fail
  obtain ⟨w0, hw0, h0, hx0⟩ : ∃ w0, w.alloc (.cells #[.int .i32 0, .int .i32 0, .int .i32 0, .int .i32 0, .int .i32 0, .int .i64 0] 45) = w0 ∧ CAt w0 w.heap.size ceZ ∧ Ext w w0 := ⟨_, rfl, heap_alloc_new _ _, (Ext.refl _).alloc _⟩
  rw [hw0]
  clear hw0
  go_upto_region 3 with (go_at_call 64; refine (HF.out _).mono ?_; rintro _ w1 ⟨rfl, hx1⟩)
  have h1 := h0.ext hx1
  have t8 : (@Classical.epsilon _ neU (StP 45 (.pointer (some ⟨w.heap.size, 0, none⟩)) (.agg #[.int .i32 0, .int .i32 0, .int .i32 0, .int .i32 0, .int .i32 0, .int .i64 0]))).run Try.prog w1 = .ok () (w1.setCells w.heap.size 0 ceZ.C) := CAt.store2 h1 ceZ
  have hsd := Lib.hid (CAt.stored h1 ceZ)
  have n1 := heap_lt h1
  have HX : Hid (Ext w (w1.setCells w.heap.size 0 ceZ.C)) := Lib.hid (Ext.chgTrans (hx0.trans hx1) (chg_setCells (M := [w.heap.size]) (by simp) _ _ _ (Chg.refl _ _)) (by simp))
  clear h0 hx0 hx1 h1
  go_wp2_with fail
  have hload := run_loadVar_whole (P := Try.prog) 45 _ hsd.out Try.underlying45 rfl rfl
  refine bodyPost_ret (results_cell2 rfl _ _ _ _ rfl hload) rfl ?_
  exact ⟨rfl, HX.out⟩
theorem cellp_nil (x y : Int) (w : World) : Calls Try.prog 16 #[.pointer none, .int .i64 x, .int .i64 y] w fun e w' => e = .returned (.tuple #[.agg ceZ.C.toArray, .int .i64 1]) ∧ Ext w w' :=
  cellp_none _ x y 1 rfl (fun w => (find_nil x y w).mono (by rintro _ _ ⟨rfl, rfl⟩; exact ⟨rfl, Ext.refl _⟩)) w
theorem layp_nil (x y : Int) (c : Ce) (w : World) : Calls Try.prog 19 #[.pointer none, .int .i64 x, .int .i64 y, .agg c.C.toArray] w fun e w' => e = .returned (.int .i64 1) ∧ Ext w w' := by
  go_enter Try.func19, Try.ntmps19
  go_wp2_with (go_at_call 64; refine (find_nil _ _ _).mono ?_; rintro _ _ ⟨rfl, rfl⟩)
  go_ret
  exact ⟨rfl, (Ext.refl _).alloc _⟩
theorem heap3x (w : World) (A B C : Obj) : ∃ w3, (((w.alloc A).alloc B).alloc C) = w3 ∧ w3.heap[w.heap.size]? = some A ∧ w3.heap[w.heap.size + 1]? = some B ∧ w3.heap[w.heap.size + 1 + 1]? = some C ∧ Ext w w3 :=
  ⟨_, rfl, heap_first _ _ _ _, heap_second _ _ _ _, heap_third _ _ _ _, (((Ext.refl _).alloc _).alloc _).alloc _⟩
theorem paintp_nil (s : St) (f : Fr) (color : V4) (w : World) : Calls Try.prog 24 #[.pointer none, .agg s.C.toArray, .agg f.C.toArray, .agg color.C.toArray] w fun e w' => e = .returned (.tuple #[.bool false, .int .i64 1]) ∧ Ext w w' := by
  go_enter Try.func24, Try.ntmps24
  go_wp2_with fail
  go_ret2
  exact ⟨rfl, (((Ext.refl _).alloc _).alloc _).alloc _⟩
end
theorem format_any (B : Pb) (P : Pl) (w : World) (h : PlAt w B P) : Calls Try.prog 25 #[.pointer (some ⟨B.p, 0, none⟩)] w fun e w' => e = .returned (.int .i64 P.F) ∧ Ext w w' := by
  have c2 : w.cell? ⟨B.p, 2, none⟩ = some (.int .i64 P.F) := cell_of_heap h.p rfl
  have n0 := heap_lt h.p
  clear h
  go_enter Try.func25, Try.ntmps25
  go_wp2
  go_ret
  exact ⟨rfl, Ext.refl _⟩
theorem has_any (B : Pb) (P : Pl) (w : World) (h : PlAt w B P) : Calls Try.prog 23 #[.pointer (some ⟨B.p, 0, none⟩)] w fun e w' => e = .returned (.tuple #[.bool P.dep, .bool P.sten]) ∧ Ext w w' := by
  have c6 : w.cell? ⟨B.p, 6, none⟩ = some (.bool P.dep) := cell_of_heap h.p rfl
  have c7 : w.cell? ⟨B.p, 7, none⟩ = some (.bool P.sten) := cell_of_heap h.p rfl
  have n0 := heap_lt h.p
  clear h
  go_enter Try.func23, Try.ntmps23
  go_wp2
  all_goals go_region_with fail
  all_goals go_wp2_with fail
  all_goals go_ret2
  all_goals exact ⟨rfl, (Ext.refl _).drew⟩
section
attribute [local go_sem ↓] Ld_V4 St_V4 Ld_Ce St_Ce Ld_St Ld_Sd
theorem find_out (B : Pb) (P : Pl) (x y : Int) (hi : inP P.W P.H x y = false) (w : World) (h : PlAt w B P) : Calls Try.prog 64 #[.pointer (some ⟨B.p, 0, none⟩), .int .i64 x, .int .i64 y] w fun e w' => e = .returned (.tuple #[.int .i64 0, .int .i64 2]) ∧ Ext w w' := by
  have l1 := h.loadSd
  have n0 := heap_lt h.p
  have HA := Lib.hid (at_out P.W P.H x y hi)
  clear h hi
  go_enter Try.func64, Try.ntmps64
  go_wp2_with (go_at_call 61; refine (HA.out _).mono ?_; rintro _ w1 ⟨i, rfl, hx1⟩)
  go_ret2
  exact ⟨rfl, hx1⟩
theorem find_in (B : Pb) (P : Pl) (x y : Nat) (hx : x < P.W) (hy : y < P.H) (w : World) (h : PlAt w B P) : Calls Try.prog 64 #[.pointer (some ⟨B.p, 0, none⟩), .int .i64 x, .int .i64 y] w fun e w' => e = .returned (.tuple #[.int .i64 (y * P.W + x : Nat), .int .i64 0]) ∧ Ext w w' := by
  have l1 := h.loadSd
  have n0 := heap_lt h.p
  have HA := Lib.hid (at_in P.W P.H x y hx hy h.ok.w2 h.ok.h2)
  generalize y * P.W + x = I at *
  clear h hx hy
  go_enter Try.func64, Try.ntmps64
  go_wp2_with (go_at_call 61; refine (HA.out _).mono ?_; rintro _ w1 ⟨rfl, hx1⟩)
  go_ret2
  exact ⟨rfl, hx1⟩
theorem cellp_out (B : Pb) (P : Pl) (x y : Int) (hi : inP P.W P.H x y = false) (w : World) (h : PlAt w B P) : Calls Try.prog 16 #[.pointer (some ⟨B.p, 0, none⟩), .int .i64 x, .int .i64 y] w fun e w' => e = .returned (.tuple #[.agg ceZ.C.toArray, .int .i64 2]) ∧ Ext w w' := by
  have HF := Lib.hid (fun w h => find_out B P x y hi w h)
  have HP := Lib.hid h
  have hz := zero_cell
  clear hi h
  go_enter Try.func16, Try.ntmps16
  go_upto_region 1 with fail
  obtain ⟨w0, hw0, h0, hx0⟩ : ∃ w0, w.alloc (.cells #[.int .i32 0, .int .i32 0, .int .i32 0, .int .i32 0, .int .i32 0, .int .i64 0] 45) = w0 ∧ CAt w0 w.heap.size ceZ ∧ Ext w w0 := ⟨_, rfl, heap_alloc_new _ _, (Ext.refl _).alloc _⟩
  rw [hw0]
  clear hw0
  have HX0 := Lib.hid hx0
  go_upto_region 3 with (go_at_call 64; refine (HF.out _ (HP.out.ext HX0.out)).mono ?_; rintro _ w1 ⟨rfl, hx1⟩)
  have h1 := h0.ext hx1
  have t8 : (@Classical.epsilon _ neU (StP 45 (.pointer (some ⟨w.heap.size, 0, none⟩)) (.agg #[.int .i32 0, .int .i32 0, .int .i32 0, .int .i32 0, .int .i32 0, .int .i64 0]))).run Try.prog w1 = .ok () (w1.setCells w.heap.size 0 ceZ.C) := CAt.store2 h1 ceZ
  have hsd := Lib.hid (CAt.stored h1 ceZ)
  have n1 := heap_lt h1
  have HX : Hid (Ext w (w1.setCells w.heap.size 0 ceZ.C)) := Lib.hid (Ext.chgTrans (hx0.trans hx1) (chg_setCells (M := [w.heap.size]) (by simp) _ _ _ (Chg.refl _ _)) (by simp))
  clear h0 hx0 hx1 h1
  go_wp2_with fail
  have hload := run_loadVar_whole (P := Try.prog) 45 _ hsd.out Try.underlying45 rfl rfl
  refine bodyPost_ret (results_cell2 rfl _ _ _ _ rfl hload) rfl ?_
  exact ⟨rfl, HX.out⟩
theorem place_lt {x y W H : Nat} (hx : x < W) (hy : y < H) : y * W + x < W * H := by
  have := Nat.mul_le_mul_right W (show y + 1 ≤ H by omega)
  rw [Nat.succ_mul, Nat.mul_comm H] at this
  omega
theorem cellp_in (B : Pb) (P : Pl) (x y : Nat) (hx : x < P.W) (hy : y < P.H) (w : World) (h : PlAt w B P) : Calls Try.prog 16 #[.pointer (some ⟨B.p, 0, none⟩), .int .i64 x, .int .i64 y] w fun e w' => e = .returned (.tuple #[.agg (cellV P (y * P.W + x)).C.toArray, .int .i64 0]) ∧ Ext w w' := by
  have HF := Lib.hid (fun w h => find_in B P x y hx hy w h)
  have HC := Lib.hid (fun w h => cell_any B P (y * P.W + x) (place_lt hx hy) w h)
  have HP := Lib.hid h
  have hz := zero_cell
  generalize cellV P (y * P.W + x) = CE at *
  generalize y * P.W + x = I at *
  clear hx hy h
  go_enter Try.func16, Try.ntmps16
  go_upto_region 1 with fail
  obtain ⟨w0, hw0, h0, hx0⟩ : ∃ w0, w.alloc (.cells #[.int .i32 0, .int .i32 0, .int .i32 0, .int .i32 0, .int .i32 0, .int .i64 0] 45) = w0 ∧ CAt w0 w.heap.size ceZ ∧ Ext w w0 := ⟨_, rfl, heap_alloc_new _ _, (Ext.refl _).alloc _⟩
  rw [hw0]
  clear hw0
  have HX0 := Lib.hid hx0
  have H0 := Lib.hid h0
  clear h0 hx0
  go_upto_region 4 with (go_at_call 64; refine (HF.out _ (HP.out.ext HX0.out)).mono ?_; rintro _ w1 ⟨rfl, hx1⟩)
  have HX1 := Lib.hid (HX0.out.trans hx1)
  have H1 := Lib.hid (H0.out.ext hx1)
  clear hx1
  go_wp2_with (go_at_call 62; refine (HC.out _ (HP.out.ext HX1.out)).mono ?_; rintro _ w2 ⟨rfl, hx2⟩; have h2 := H1.out.ext hx2; have t8 := CAt.store2 h2 CE; have hsd := Lib.hid (CAt.stored h2 CE); have n1 := heap_lt h2; have HX : Hid (Ext w (w2.setCells w.heap.size 0 CE.C)) := Lib.hid (Ext.chgTrans (HX1.out.trans hx2) (chg_setCells (M := [w.heap.size]) (by simp) _ _ _ (Chg.refl _ _)) (by simp)); clear h2 hx2)
  have hload := run_loadVar_whole (P := Try.prog) 45 _ hsd.out Try.underlying45 rfl rfl
  refine bodyPost_ret (results_cell2 rfl _ _ _ _ rfl hload) rfl ?_
  exact ⟨rfl, HX.out⟩
end
/-- How many bytes planes have. -/
def costV (W H F : Nat) (d s : Bool) : Nat := W * H * (szN F + (if d then 2 else 0) + (if s then 1 else 0))
theorem cost_bad (x y f : Int) (d s : Bool) (w : World) (h : mayV x y f = false) : Calls Try.prog 26 #[.int .i64 x, .int .i64 y, .int .i64 f, .bool d, .bool s] w fun e w' => e = .returned (.int .i64 0) ∧ w = w' := by
  have HM := Lib.hid (may_any x y f)
  rw [h] at HM
  clear h
  go_enter Try.func26, Try.ntmps26
  go_wp2_with (go_at_call 56; refine (HM.out _).mono ?_; rintro _ _ ⟨rfl, rfl⟩)
  go_ret
  exact ⟨rfl, rfl⟩
theorem cost_any (W H F : Nat) (d s : Bool) (w : World) (h : mayV W H F = true) : Calls Try.prog 26 #[.int .i64 W, .int .i64 H, .int .i64 F, .bool d, .bool s] w fun e w' => e = .returned (.int .i64 (costV W H F d s : Nat)) ∧ Ext w w' := by
  obtain ⟨h1, h3, h2, h4, h5, h6⟩ := may_true h
  have HM := Lib.hid (may_any W H F)
  rw [h] at HM
  have HS := Lib.hid (fun w => Size_any F w)
  have hsz := szN_bd F
  rw [szN_V F (by omega) (by omega)] at HS
  have hab : W * H ≤ 4096 := Nat.mul_le_mul (show W ≤ 64 by omega) (show H ≤ 64 by omega)
  have s1 : IntKind.i64.wrap ((W : Int) * (H : Int)) = ((W * H : Nat) : Int) := by rw [← Int.natCast_mul]; exact IntWalk.i64_in _ ⟨by omega, by omega⟩
  obtain ⟨A, hA⟩ : ∃ A, W * H = A := ⟨_, rfl⟩
  rw [hA] at s1 hab
  have HA := Lib.hid hA
  have s2 : ∀ n : Nat, n ≤ 7 → IntKind.i64.wrap ((A : Int) * (n : Int)) = ((A * n : Nat) : Int) := fun n hn => by
    rw [← Int.natCast_mul]
    have : A * n ≤ 4096 * 7 := Nat.mul_le_mul hab hn
    exact IntWalk.i64_in _ ⟨by omega, by omega⟩
  have HK : Hid (∀ n : Nat, n ≤ 7 → wrap64 ((A : Int) * (n : Int)) = (A : Int) * (n : Int)) := Lib.hid fun n hn => by
    have : A * n ≤ 4096 * 7 := Nat.mul_le_mul hab hn
    rw [← Int.natCast_mul]
    exact w64_in _ (by omega)
  have HV := Lib.hid (show costV W H F d s = A * (szN F + (if d then 2 else 0) + (if s then 1 else 0)) by rw [← hA]; rfl)
  generalize szN F = S at *
  clear h h1 h2 h3 h4 h5 h6 hA
  cases d
  all_goals cases s
  · have hn : S ≤ 7 := by omega
    have s3 := s2 S (by omega)
    clear s2
    go_enter Try.func26, Try.ntmps26
    go_wp2_with (first | (go_at_call 56; refine (HM.out _).mono ?_; rintro _ _ ⟨rfl, rfl⟩) | (go_at_call 57; refine (HS.out _).mono ?_; rintro _ w1 ⟨rfl, hx1⟩))
    go_ret
    refine ⟨ret_int ?_, hx1⟩
    rw [HV.out]
    first | (simp; done) | (have s4 := HK.out _ hn; simpa using s4)
  · have hn : S + 1 ≤ 7 := by omega
    have s3 := s2 (S + 1) (by omega)
    clear s2
    go_enter Try.func26, Try.ntmps26
    go_wp2_with (first | (go_at_call 56; refine (HM.out _).mono ?_; rintro _ _ ⟨rfl, rfl⟩) | (go_at_call 57; refine (HS.out _).mono ?_; rintro _ w1 ⟨rfl, hx1⟩))
    go_ret
    refine ⟨ret_int ?_, hx1⟩
    rw [HV.out]
    first | (simp; done) | (have s4 := HK.out _ hn; simpa using s4)
  · have hn : S + 2 ≤ 7 := by omega
    have s3 := s2 (S + 2) (by omega)
    clear s2
    go_enter Try.func26, Try.ntmps26
    go_wp2_with (first | (go_at_call 56; refine (HM.out _).mono ?_; rintro _ _ ⟨rfl, rfl⟩) | (go_at_call 57; refine (HS.out _).mono ?_; rintro _ w1 ⟨rfl, hx1⟩))
    go_ret
    refine ⟨ret_int ?_, hx1⟩
    rw [HV.out]
    first | (simp; done) | (have s4 := HK.out _ hn; simpa using s4)
  · have hn : S + 2 + 1 ≤ 7 := by omega
    have s3 := s2 (S + 2 + 1) (by omega)
    clear s2
    go_enter Try.func26, Try.ntmps26
    go_wp2_with (first | (go_at_call 56; refine (HM.out _).mono ?_; rintro _ _ ⟨rfl, rfl⟩) | (go_at_call 57; refine (HS.out _).mono ?_; rintro _ w1 ⟨rfl, hx1⟩))
    go_ret
    refine ⟨ret_int ?_, hx1⟩
    rw [HV.out]
    first | (simp; done) | (have s4 := HK.out _ hn; simpa using s4)
end Go.Proofs.Ytgdcdkajicgliaa
