/- Planes that are not there; Format, Has, find, Cell, Cost. Conditions: each theorem's own premises. Contracts of Bytes and Copy: bytes and planes of one's own. Conditions: each theorem's own premises. Contract of Lay. Conditions: each theorem's own premises. -/
import Derived.Test.YtgdcdkajicgliaaFraD
import Derived.Deep.RegionWith
import Derived.Deep.DrawnRows
import Derived.Test.YtgdcdkajicgliaaOct1
import Derived.Deep.RegionHeld3
import Derived.Deep.RegionLaw
import Derived.ArgAppend
import Derived.Deep.AppendLies
namespace Go.Proofs.Ytgdcdkajicgliaa
open Go.RowKit
set_option linter.unusedVariables false
set_option maxRecDepth 100000
set_option linter.unusedSimpArgs false

theorem sides_nil (w : World) : Calls Try.prog 22 #[.pointer none] w fun e w' => e = .returned (.tuple #[.int .i64 0, .int .i64 0]) ∧ w = w' := by
  go_enter Try.func22, Try.ntmps22
  go_wp2
  go_ret2
  exact ⟨rfl, rfl⟩
theorem has_nil (w : World) : Calls Try.prog 23 #[.pointer none] w fun e w' => e = .returned (.tuple #[.bool false, .bool false]) ∧ w = w' := by
  go_enter Try.func23, Try.ntmps23
  go_wp2
  go_ret2
  exact ⟨rfl, rfl⟩
theorem format_nil (w : World) : Calls Try.prog 25 #[.pointer none] w fun e w' => e = .returned (.int .i64 0) ∧ w = w' := by
  go_enter Try.func25, Try.ntmps25
  go_wp2
  go_ret
  exact ⟨rfl, rfl⟩
theorem bytes_nil (w : World) : Calls Try.prog 20 #[.pointer none] w fun e w' => e = .returned (.slice none 0 0) ∧ w = w' := by
  go_enter Try.func20, Try.ntmps20
  go_wp2
  go_ret
  exact ⟨rfl, rfl⟩
theorem copy_nil (w : World) : Calls Try.prog 18 #[.pointer none] w fun e w' => e = .returned (.pointer none) ∧ w = w' := by
  go_enter Try.func18, Try.ntmps18
  go_wp2
  go_ret
  exact ⟨rfl, rfl⟩
theorem find_nil (x y : Int) (w : World) : Calls Try.prog 64 #[.pointer none, .int .i64 x, .int .i64 y] w fun e w' => e = .returned (.tuple #[.int .i64 0, .int .i64 1]) ∧ w = w' := by
  go_enter Try.func64, Try.ntmps64
  go_wp2
  go_ret2
  exact ⟨rfl, rfl⟩
section
attribute [local go_sem ↓] Ld_V4 St_V4 Ld_Ce St_Ce Ld_St Ld_Sd
theorem zero_cell (w : World) : (zeroValue 45).run Try.prog w = .ok (.agg #[.int .i32 0, .int .i32 0, .int .i32 0, .int .i32 0, .int .i32 0, .int .i64 0]) w := by kernel_rfl
theorem cellp_none (q : Value) (x y n : Int) (hn : (n != 0) = true) (hf : ∀ w, Calls Try.prog 64 #[q, .int .i64 x, .int .i64 y] w fun e w' => e = .returned (.tuple #[.int .i64 0, .int .i64 n]) ∧ Ext w w') (w : World) : Calls Try.prog 16 #[q, .int .i64 x, .int .i64 y] w fun e w' => e = .returned (.tuple #[.agg ceZ.C.toArray, .int .i64 n]) ∧ Ext w w' := by
  have HF := Lib.hid hf
  clear hf
  have hz := zero_cell
  go_enter Try.func16, Try.ntmps16
  go_upto_region 1 with fail
  obtain ⟨w0, hw0, h0, hx0⟩ : ∃ w0, w.alloc (.cells #[.int .i32 0, .int .i32 0, .int .i32 0, .int .i32 0, .int .i32 0, .int .i64 0] 45) = w0 ∧ CAt w0 w.heap.size ceZ ∧ Ext w w0 := ⟨_, rfl, heap_alloc_new _ _, (Ext.refl _).alloc _⟩
  rw [hw0]
  clear hw0
  go_upto_region 3 with (go_at_call 64; refine (HF.out _).mono ?_; rintro _ w1 ⟨rfl, hx1⟩)
  have h1 := h0.ext hx1
  have t8 : (@Classical.epsilon _ neU (StP 45 (.pointer (some ⟨w.heap.size, 0, none⟩)) (.agg #[.int .i32 0, .int .i32 0, .int .i32 0, .int .i32 0, .int .i32 0, .int .i64 0]))).run Try.prog w1 = .ok () (w1.setCells w.heap.size 0 ceZ.C) := CAt.store2 h1 ceZ
  have hsd := Lib.hid (CAt.stored h1 ceZ)
  have n1 := heap_lt h1
  have HX : Hid (Ext w (w1.setCells w.heap.size 0 ceZ.C)) := Lib.hid (Ext.chgTrans (hx0.trans hx1) (chg_setCells (M := [w.heap.size]) (by simp) _ _ _ (Chg.refl _ _)) (by simp))
  clear h0 hx0 hx1 h1
  go_wp2_with fail
  have hload := run_loadVar_whole (P := Try.prog) 45 _ hsd.out Try.underlying45 rfl rfl
  refine bodyPost_ret (results_cell2 rfl _ _ _ _ rfl hload) rfl ?_
  exact ⟨rfl, HX.out⟩
theorem cellp_nil (x y : Int) (w : World) : Calls Try.prog 16 #[.pointer none, .int .i64 x, .int .i64 y] w fun e w' => e = .returned (.tuple #[.agg ceZ.C.toArray, .int .i64 1]) ∧ Ext w w' :=
  cellp_none _ x y 1 rfl (fun w => (find_nil x y w).mono (by rintro _ _ ⟨rfl, rfl⟩; exact ⟨rfl, Ext.refl _⟩)) w
theorem layp_nil (x y : Int) (c : Ce) (w : World) : Calls Try.prog 19 #[.pointer none, .int .i64 x, .int .i64 y, .agg c.C.toArray] w fun e w' => e = .returned (.int .i64 1) ∧ Ext w w' := by
  go_enter Try.func19, Try.ntmps19
  go_wp2_with (go_at_call 64; refine (find_nil _ _ _).mono ?_; rintro _ _ ⟨rfl, rfl⟩)
  go_ret
  exact ⟨rfl, (Ext.refl _).alloc _⟩
theorem heap3x (w : World) (A B C : Obj) : ∃ w3, (((w.alloc A).alloc B).alloc C) = w3 ∧ w3.heap[w.heap.size]? = some A ∧ w3.heap[w.heap.size + 1]? = some B ∧ w3.heap[w.heap.size + 1 + 1]? = some C ∧ Ext w w3 :=
  ⟨_, rfl, heap_first _ _ _ _, heap_second _ _ _ _, heap_third _ _ _ _, (((Ext.refl _).alloc _).alloc _).alloc _⟩
theorem paintp_nil (s : St) (f : Fr) (color : V4) (w : World) : Calls Try.prog 24 #[.pointer none, .agg s.C.toArray, .agg f.C.toArray, .agg color.C.toArray] w fun e w' => e = .returned (.tuple #[.bool false, .int .i64 1]) ∧ Ext w w' := by
  go_enter Try.func24, Try.ntmps24
  go_wp2_with fail
  go_ret2
  exact ⟨rfl, (((Ext.refl _).alloc _).alloc _).alloc _⟩
end
theorem format_any (B : Pb) (P : Pl) (w : World) (h : PlAt w B P) : Calls Try.prog 25 #[.pointer (some ⟨B.p, 0, none⟩)] w fun e w' => e = .returned (.int .i64 P.F) ∧ Ext w w' := by
  have c2 : w.cell? ⟨B.p, 2, none⟩ = some (.int .i64 P.F) := cell_of_heap h.p rfl
  have n0 := heap_lt h.p
  clear h
  go_enter Try.func25, Try.ntmps25
  go_wp2
  go_ret
  exact ⟨rfl, Ext.refl _⟩
theorem has_any (B : Pb) (P : Pl) (w : World) (h : PlAt w B P) : Calls Try.prog 23 #[.pointer (some ⟨B.p, 0, none⟩)] w fun e w' => e = .returned (.tuple #[.bool P.dep, .bool P.sten]) ∧ Ext w w' := by
  have c6 : w.cell? ⟨B.p, 6, none⟩ = some (.bool P.dep) := cell_of_heap h.p rfl
  have c7 : w.cell? ⟨B.p, 7, none⟩ = some (.bool P.sten) := cell_of_heap h.p rfl
  have n0 := heap_lt h.p
  clear h
  go_enter Try.func23, Try.ntmps23
  go_wp2
  all_goals go_region_with fail
  all_goals go_wp2_with fail
  all_goals go_ret2
  all_goals exact ⟨rfl, (Ext.refl _).drew⟩
section
attribute [local go_sem ↓] Ld_V4 St_V4 Ld_Ce St_Ce Ld_St Ld_Sd
theorem find_out (B : Pb) (P : Pl) (x y : Int) (hi : inP P.W P.H x y = false) (w : World) (h : PlAt w B P) : Calls Try.prog 64 #[.pointer (some ⟨B.p, 0, none⟩), .int .i64 x, .int .i64 y] w fun e w' => e = .returned (.tuple #[.int .i64 0, .int .i64 2]) ∧ Ext w w' := by
  have l1 := h.loadSd
  have n0 := heap_lt h.p
  have HA := Lib.hid (at_out P.W P.H x y hi)
  clear h hi
  go_enter Try.func64, Try.ntmps64
  go_wp2_with (go_at_call 61; refine (HA.out _).mono ?_; rintro _ w1 ⟨i, rfl, hx1⟩)
  go_ret2
  exact ⟨rfl, hx1⟩
theorem find_in (B : Pb) (P : Pl) (x y : Nat) (hx : x < P.W) (hy : y < P.H) (w : World) (h : PlAt w B P) : Calls Try.prog 64 #[.pointer (some ⟨B.p, 0, none⟩), .int .i64 x, .int .i64 y] w fun e w' => e = .returned (.tuple #[.int .i64 (y * P.W + x : Nat), .int .i64 0]) ∧ Ext w w' := by
  have l1 := h.loadSd
  have n0 := heap_lt h.p
  have HA := Lib.hid (at_in P.W P.H x y hx hy h.ok.w2 h.ok.h2)
  generalize y * P.W + x = I at *
  clear h hx hy
  go_enter Try.func64, Try.ntmps64
  go_wp2_with (go_at_call 61; refine (HA.out _).mono ?_; rintro _ w1 ⟨rfl, hx1⟩)
  go_ret2
  exact ⟨rfl, hx1⟩
theorem cellp_out (B : Pb) (P : Pl) (x y : Int) (hi : inP P.W P.H x y = false) (w : World) (h : PlAt w B P) : Calls Try.prog 16 #[.pointer (some ⟨B.p, 0, none⟩), .int .i64 x, .int .i64 y] w fun e w' => e = .returned (.tuple #[.agg ceZ.C.toArray, .int .i64 2]) ∧ Ext w w' := by
  have HF := Lib.hid (fun w h => find_out B P x y hi w h)
  have HP := Lib.hid h
  have hz := zero_cell
  clear hi h
  go_enter Try.func16, Try.ntmps16
  go_upto_region 1 with fail
  obtain ⟨w0, hw0, h0, hx0⟩ : ∃ w0, w.alloc (.cells #[.int .i32 0, .int .i32 0, .int .i32 0, .int .i32 0, .int .i32 0, .int .i64 0] 45) = w0 ∧ CAt w0 w.heap.size ceZ ∧ Ext w w0 := ⟨_, rfl, heap_alloc_new _ _, (Ext.refl _).alloc _⟩
  rw [hw0]
  clear hw0
  have HX0 := Lib.hid hx0
  go_upto_region 3 with (go_at_call 64; refine (HF.out _ (HP.out.ext HX0.out)).mono ?_; rintro _ w1 ⟨rfl, hx1⟩)
  have h1 := h0.ext hx1
  have t8 : (@Classical.epsilon _ neU (StP 45 (.pointer (some ⟨w.heap.size, 0, none⟩)) (.agg #[.int .i32 0, .int .i32 0, .int .i32 0, .int .i32 0, .int .i32 0, .int .i64 0]))).run Try.prog w1 = .ok () (w1.setCells w.heap.size 0 ceZ.C) := CAt.store2 h1 ceZ
  have hsd := Lib.hid (CAt.stored h1 ceZ)
  have n1 := heap_lt h1
  have HX : Hid (Ext w (w1.setCells w.heap.size 0 ceZ.C)) := Lib.hid (Ext.chgTrans (hx0.trans hx1) (chg_setCells (M := [w.heap.size]) (by simp) _ _ _ (Chg.refl _ _)) (by simp))
  clear h0 hx0 hx1 h1
  go_wp2_with fail
  have hload := run_loadVar_whole (P := Try.prog) 45 _ hsd.out Try.underlying45 rfl rfl
  refine bodyPost_ret (results_cell2 rfl _ _ _ _ rfl hload) rfl ?_
  exact ⟨rfl, HX.out⟩
theorem cellp_in (B : Pb) (P : Pl) (x y : Nat) (hx : x < P.W) (hy : y < P.H) (w : World) (h : PlAt w B P) : Calls Try.prog 16 #[.pointer (some ⟨B.p, 0, none⟩), .int .i64 x, .int .i64 y] w fun e w' => e = .returned (.tuple #[.agg (cellV P (y * P.W + x)).C.toArray, .int .i64 0]) ∧ Ext w w' := by
  have HF := Lib.hid (fun w h => find_in B P x y hx hy w h)
  have HC := Lib.hid (fun w h => cell_any B P (y * P.W + x) (place_lt hx hy) w h)
  have HP := Lib.hid h
  have hz := zero_cell
  generalize cellV P (y * P.W + x) = CE at *
  generalize y * P.W + x = I at *
  clear hx hy h
  go_enter Try.func16, Try.ntmps16
  go_upto_region 1 with fail
  obtain ⟨w0, hw0, h0, hx0⟩ : ∃ w0, w.alloc (.cells #[.int .i32 0, .int .i32 0, .int .i32 0, .int .i32 0, .int .i32 0, .int .i64 0] 45) = w0 ∧ CAt w0 w.heap.size ceZ ∧ Ext w w0 := ⟨_, rfl, heap_alloc_new _ _, (Ext.refl _).alloc _⟩
  rw [hw0]
  clear hw0
  have HX0 := Lib.hid hx0
  have H0 := Lib.hid h0
  clear h0 hx0
  go_upto_region 4 with (go_at_call 64; refine (HF.out _ (HP.out.ext HX0.out)).mono ?_; rintro _ w1 ⟨rfl, hx1⟩)
  have HX1 := Lib.hid (HX0.out.trans hx1)
  have H1 := Lib.hid (H0.out.ext hx1)
  clear hx1
  go_wp2_with (go_at_call 62; refine (HC.out _ (HP.out.ext HX1.out)).mono ?_; rintro _ w2 ⟨rfl, hx2⟩; have h2 := H1.out.ext hx2; have t8 := CAt.store2 h2 CE; have hsd := Lib.hid (CAt.stored h2 CE); have n1 := heap_lt h2; have HX : Hid (Ext w (w2.setCells w.heap.size 0 CE.C)) := Lib.hid (Ext.chgTrans (HX1.out.trans hx2) (chg_setCells (M := [w.heap.size]) (by simp) _ _ _ (Chg.refl _ _)) (by simp)); clear h2 hx2)
  have hload := run_loadVar_whole (P := Try.prog) 45 _ hsd.out Try.underlying45 rfl rfl
  refine bodyPost_ret (results_cell2 rfl _ _ _ _ rfl hload) rfl ?_
  exact ⟨rfl, HX.out⟩
end
/-- How many bytes planes have. -/
def costV (W H F : Nat) (d s : Bool) : Nat := W * H * (szN F + (if d then 2 else 0) + (if s then 1 else 0))
theorem cost_bad (x y f : Int) (d s : Bool) (w : World) (h : mayV x y f = false) : Calls Try.prog 26 #[.int .i64 x, .int .i64 y, .int .i64 f, .bool d, .bool s] w fun e w' => e = .returned (.int .i64 0) ∧ w = w' := by
  have HM := Lib.hid (may_any x y f)
  rw [h] at HM
  clear h
  go_enter Try.func26, Try.ntmps26
  go_wp2_with (go_at_call 56; refine (HM.out _).mono ?_; rintro _ _ ⟨rfl, rfl⟩)
  go_ret
  exact ⟨rfl, rfl⟩
theorem cost_any (W H F : Nat) (d s : Bool) (w : World) (h : mayV W H F = true) : Calls Try.prog 26 #[.int .i64 W, .int .i64 H, .int .i64 F, .bool d, .bool s] w fun e w' => e = .returned (.int .i64 (costV W H F d s : Nat)) ∧ Ext w w' := by
  obtain ⟨h1, h3, h2, h4, h5, h6⟩ := may_true h
  have HM := Lib.hid (may_any W H F)
  rw [h] at HM
  have HS := Lib.hid (fun w => Size_any F w)
  have hsz := szN_bd F
  rw [szN_V F (by omega) (by omega)] at HS
  have hab : W * H ≤ 4096 := Nat.mul_le_mul (show W ≤ 64 by omega) (show H ≤ 64 by omega)
  have s1 : IntKind.i64.wrap ((W : Int) * (H : Int)) = ((W * H : Nat) : Int) := by rw [← Int.natCast_mul]; exact IntWalk.i64_in _ ⟨by omega, by omega⟩
  obtain ⟨A, hA⟩ : ∃ A, W * H = A := ⟨_, rfl⟩
  rw [hA] at s1 hab
  have HA := Lib.hid hA
  have s2 : ∀ n : Nat, n ≤ 7 → IntKind.i64.wrap ((A : Int) * (n : Int)) = ((A * n : Nat) : Int) := fun n hn => by
    rw [← Int.natCast_mul]
    have : A * n ≤ 4096 * 7 := Nat.mul_le_mul hab hn
    exact IntWalk.i64_in _ ⟨by omega, by omega⟩
  have HK : Hid (∀ n : Nat, n ≤ 7 → wrap64 ((A : Int) * (n : Int)) = (A : Int) * (n : Int)) := Lib.hid fun n hn => by
    have : A * n ≤ 4096 * 7 := Nat.mul_le_mul hab hn
    rw [← Int.natCast_mul]
    exact w64_in _ (by omega)
  have HV := Lib.hid (show costV W H F d s = A * (szN F + (if d then 2 else 0) + (if s then 1 else 0)) by rw [← hA]; rfl)
  generalize szN F = S at *
  clear h h1 h2 h3 h4 h5 h6 hA
  cases d
  all_goals cases s
  · have hn : S ≤ 7 := by omega
    have s3 := s2 S (by omega)
    clear s2
    go_enter Try.func26, Try.ntmps26
    go_wp2_with (first | (go_at_call 56; refine (HM.out _).mono ?_; rintro _ _ ⟨rfl, rfl⟩) | (go_at_call 57; refine (HS.out _).mono ?_; rintro _ w1 ⟨rfl, hx1⟩))
    go_ret
    refine ⟨ret_int ?_, hx1⟩
    rw [HV.out]
    first | (simp; done) | (have s4 := HK.out _ hn; simpa using s4)
  · have hn : S + 1 ≤ 7 := by omega
    have s3 := s2 (S + 1) (by omega)
    clear s2
    go_enter Try.func26, Try.ntmps26
    go_wp2_with (first | (go_at_call 56; refine (HM.out _).mono ?_; rintro _ _ ⟨rfl, rfl⟩) | (go_at_call 57; refine (HS.out _).mono ?_; rintro _ w1 ⟨rfl, hx1⟩))
    go_ret
    refine ⟨ret_int ?_, hx1⟩
    rw [HV.out]
    first | (simp; done) | (have s4 := HK.out _ hn; simpa using s4)
  · have hn : S + 2 ≤ 7 := by omega
    have s3 := s2 (S + 2) (by omega)
    clear s2
    go_enter Try.func26, Try.ntmps26
    go_wp2_with (first | (go_at_call 56; refine (HM.out _).mono ?_; rintro _ _ ⟨rfl, rfl⟩) | (go_at_call 57; refine (HS.out _).mono ?_; rintro _ w1 ⟨rfl, hx1⟩))
    go_ret
    refine ⟨ret_int ?_, hx1⟩
    rw [HV.out]
    first | (simp; done) | (have s4 := HK.out _ hn; simpa using s4)
  · have hn : S + 2 + 1 ≤ 7 := by omega
    have s3 := s2 (S + 2 + 1) (by omega)
    clear s2
    go_enter Try.func26, Try.ntmps26
    go_wp2_with (first | (go_at_call 56; refine (HM.out _).mono ?_; rintro _ _ ⟨rfl, rfl⟩) | (go_at_call 57; refine (HS.out _).mono ?_; rintro _ w1 ⟨rfl, hx1⟩))
    go_ret
    refine ⟨ret_int ?_, hx1⟩
    rw [HV.out]
    first | (simp; done) | (have s4 := HK.out _ hn; simpa using s4)
end Go.Proofs.Ytgdcdkajicgliaa
namespace Go.Proofs.Ytgdcdkajicgliaa
open Go.RowKit
set_option linter.unusedVariables false
set_option maxRecDepth 100000
set_option linter.unusedSimpArgs false

theorem int_one16 {zs : List Int} : ∀ u ∈ zs.map (Value.int .u16), u.oneCell' = true := by
  intro u hu
  obtain ⟨z, _, rfl⟩ := List.mem_map.1 hu
  rfl
set_option maxHeartbeats 1000000 in
/-- slices.Clone at numbers of 16 bits. -/
theorem clone_u16 (v : Value) (zs : List Int) (w : World) (h : Ints .u16 w v zs) (hb : zs.length ≤ 1000000) :
    Calls Try.prog 67 #[v] w fun e w' => ∃ a cap, e = .returned (.slice a zs.length cap) ∧ w'.ownsRow w.heap.size 134 1 (.slice a zs.length cap) zs.length (zs.map (Value.int .u16)) ∧ Ext w w' := by
  obtain ⟨i0, hi, hz0, hz1, hz2⟩ := info_parts info_u16f
  obtain ⟨a, cap, rfl⟩ : ∃ a cap, v = .slice a zs.length cap := by obtain ⟨⟨_, a, cap, rfl, _⟩, _⟩ := h; exact ⟨a, cap, rfl⟩
  have q22 : ∀ (w : World) (a : Option Addr) (n c n' c' : Nat), (binOp .eql 119 (.slice a n c) (.slice none n' c')).run Try.prog w = .ok (.bool a.isNone) w := fun w a n c n' c' => Lib.run_eql_slice_nil w _ _ a n c n' c' Try.underlying119
  cases a with
  | none =>
    have h0 : cap = 0 := by obtain ⟨⟨_, a, cap, he, _, _, hz, _⟩, _⟩ := h; simp at he; obtain ⟨rfl, rfl⟩ := he; exact hz rfl
    have h1 : zs = [] := by obtain ⟨⟨_, a, cap, he, hn, _, hz, _⟩, _⟩ := h; simp at he; obtain ⟨rfl, rfl⟩ := he; rw [hz rfl] at hn; exact List.eq_nil_of_length_eq_zero (by omega)
    subst h0; subst h1
    go_enter Try.func67, Try.ntmps67
    go_wp2
    go_ret
    exact ⟨none, 0, rfl, World.ownsRow_nil _ _ _ _, Ext.refl _⟩
  | some x =>
    have hnews := SlC.news h.1 rfl (by decide)
    have HN := Lib.hid hnews
    clear hnews
    go_enter Try.func67, Try.ntmps67
    go_wp2_with (at_builtin; refine wpList_append_own _ rfl _ _ 119 rfl w.heap.size 134 i0 (.int .u16 0) 1 2 Try.underlying119 hi hz0 hz1 hz2 rfl (by decide) _ _ _ rfl (World.ownsRow_made w #[] 0 (Nat.le_refl _) (Nat.zero_le _) (by simp)) x zs.length cap (zs.map (Value.int .u16)) rfl ?qc1 ?qc2 ?qc3 ?qc4 ?qc5 ?qc6 ?_)
    case qc1 => simp
    case qc2 =>
      intro j u hj
      exact (Ext.refl w).alloc _ |>.cell (HN.out j u hj)
    case qc3 => exact int_one16
    case qc4 => unfold maxLen; omega
    case qc5 => omega
    case qc6 => simp
    intro v' w1 hown hgrow hnil
    go_wp2
    go_ret
    have hown' : w1.ownsRow w.heap.size 134 1 v' zs.length (zs.map (Value.int .u16)) := by simpa using hown
    obtain ⟨a', c', hv'⟩ := owns_slice hown'
    rw [hv'] at hown' ⊢
    exact ⟨a', c', rfl, hown', ((Ext.refl w).alloc _).grown hgrow (by intro k hk; simp [Value.ownBlock] at hk; omega)⟩
/-- The block of a row of one's own. -/
theorem owns_tail {w : World} {base : Nat} {e : TypeId} {v : Value} {n : Nat} {xs : List Value} (h : w.ownsRow base e 1 v n xs) (h0 : 0 < n) :
    ∃ g cap t, v = .slice (some ⟨g, 0, none⟩) n cap ∧ base ≤ g ∧ w.heap[g]? = some (.cells (xs ++ t).toArray e (0, 0)) ∧ n + t.length = cap ∧ cap ≤ maxLen := by
  obtain ⟨hl, ⟨rfl, rfl⟩ | ⟨g, cap, cur, rfl, hb, hh, hn, hm, hs, ht⟩⟩ := h
  · omega
  · refine ⟨g, cap, cur.toList.drop n, rfl, hb, ?_, ?_, hm⟩
    · rw [hh, ← ht, Nat.mul_one, List.take_append_drop]
    · rw [List.length_drop, Array.length_toList, hs]
      omega
theorem PlAt.ints {w : World} {B : Pb} {P : Pl} (h : PlAt w B P) : Ints .u8 w (.slice (some ⟨B.c, 0, none⟩) P.col.length B.kc) P.col ∧ Ints .u16 w (.slice (some ⟨B.d, 0, none⟩) P.dz.length B.kd) P.dz ∧ Ints .u8 w (.slice (some ⟨B.m, 0, none⟩) P.ms.length B.km) P.ms :=
  ⟨ints_block h.c (by have := h.k.1.1; have := h.ok.col; omega) h.k.1.2 h.ok.colw, ints_block h.d (by have := h.k.2.1.1; have := h.ok.dz; omega) h.k.2.1.2 h.ok.dzw, ints_block h.m (by have := h.k.2.2.1; have := h.ok.ms; omega) h.k.2.2.2 h.ok.msw⟩
theorem Pl.Ok.bd {P : Pl} (h : P.Ok) : P.col.length ≤ 16384 ∧ P.dz.length ≤ 4096 ∧ P.ms.length ≤ 4096 ∧ 0 < P.col.length ∧ 0 < P.dz.length ∧ 0 < P.ms.length := by
  have hab : P.W * P.H ≤ 4096 := Nat.mul_le_mul h.w2 h.h2
  have h1 : 1 ≤ P.W * P.H := Nat.mul_le_mul h.w1 h.h1
  have h2 := Nat.mul_le_mul hab (szN_bd P.F).2
  have h3 := Nat.mul_le_mul h1 (szN_bd P.F).1
  rw [h.col, h.dz, h.ms]
  omega
theorem bytesp_any (B : Pb) (P : Pl) (w : World) (h : PlAt w B P) : Calls Try.prog 20 #[.pointer (some ⟨B.p, 0, none⟩)] w fun e w' => ∃ a cap, e = .returned (.slice a P.col.length cap) ∧ Ints .u8 w' (.slice a P.col.length cap) P.col ∧ (∀ b, (Value.slice a P.col.length cap).ownBlock = some b → w.heap.size ≤ b) ∧ Ext w w' := by
  have c3 : w.cell? ⟨B.p, 3, none⟩ = some (.slice (some ⟨B.c, 0, none⟩) P.col.length B.kc) := cell_of_heap h.p rfl
  have n0 := heap_lt h.p
  have HC := Lib.hid (clone_u8 _ P.col w h.ints.1 (by have := h.ok.bd; omega))
  clear h
  go_enter Try.func20, Try.ntmps20
  go_wp2_with (go_at_call 66; refine HC.out.mono ?_; rintro _ w1 ⟨a, cap, rfl, ho, hi, hx⟩)
  go_ret
  refine ⟨a, cap, rfl, hi, fun b hb => ?_, hx⟩
  rcases ho.2 with ⟨he, _⟩ | ⟨g, cap', cur, he, hg, _⟩
  · rw [he] at hb; simp [Value.ownBlock] at hb
  · rw [he] at hb; simp [Value.ownBlock] at hb; omega
def PlP (T : TypeId) (v : Value) (s : Sem Value) : Prop := Instr.loadAt T v = s
theorem Ld_Pn (v : Value) : Instr.loadAt 121 v = @Classical.epsilon _ neV (LdP 121 v) := Ld_fold _ _
theorem St_Pn (v u : Value) : Instr.storeAt 121 v u = @Classical.epsilon _ neU (StP 121 v u) := St_fold _ _ _
theorem PlAt.load {w : World} {B : Pb} {P : Pl} (h : PlAt w B P) : (@Classical.epsilon _ neV (LdP 121 (.pointer (some ⟨B.p, 0, none⟩)))).run Try.prog w = .ok (.agg (P.C B).toArray) w :=
  ld_ok _ (range_cells h.p (fun j v hv => by simpa using hv)) Try.underlying121 rfl (by kernel_rfl)
theorem newPn (w : World) (L : List Value) (hl : L.length = 8) (h1 : L.toArray.all (·.oneCell') = true) : ∃ w', (@Classical.epsilon _ neU (StP 121 (.pointer (some ⟨w.heap.size, 0, none⟩)) (.agg L.toArray))).run Try.prog (w.alloc (.cells #[.int .i64 0, .int .i64 0, .int .i64 0, .slice none 0 0, .slice none 0 0, .slice none 0 0, .bool false, .bool false] 121)) = .ok () w' ∧ w'.heap[w.heap.size]? = some (.cells L.toArray 121 (0, 0)) ∧ Ext w w' := by
  have h : (w.alloc (.cells #[.int .i64 0, .int .i64 0, .int .i64 0, .slice none 0 0, .slice none 0 0, .slice none 0 0, .bool false, .bool false] 121)).heap[w.heap.size]? = some (.cells [Value.int .i64 0, .int .i64 0, .int .i64 0, .slice none 0 0, .slice none 0 0, .slice none 0 0, .bool false, .bool false].toArray 121 (0, 0)) := heap_alloc_new _ _
  obtain ⟨h1, h2, h3⟩ := stF_mid 121 h 0 L (by rw [hl]; decide) (by rw [hl]; kernel_rfl) h1
  refine ⟨_, h1, ?_, ((Ext.refl _).alloc _).chgTrans h3 (by simp)⟩
  rw [h2, List.take_zero, List.nil_append, Nat.zero_add, List.drop_eq_nil_of_le (by rw [hl]; decide), List.append_nil]
section
attribute [local go_sem ↓] Ld_Pn St_Pn
set_option maxHeartbeats 4000000 in
theorem copyp_any (B : Pb) (P : Pl) (w : World) (h : PlAt w B P) : Calls Try.prog 18 #[.pointer (some ⟨B.p, 0, none⟩)] w fun e w' => ∃ B2 : Pb, e = .returned (.pointer (some ⟨B2.p, 0, none⟩)) ∧ w.heap.size ≤ B2.p ∧ w.heap.size ≤ B2.c ∧ w.heap.size ≤ B2.d ∧ w.heap.size ≤ B2.m ∧ PlAt w' B2 P ∧ Ext w w' := by
  have HP := Lib.hid h
  have n0 := heap_lt h.p
  have l0 := h.load
  obtain ⟨w1, hst1, h1, hx1⟩ := newPn w (P.C B) rfl (by simp [Pl.C, Value.oneCell'])
  have HIN := Lib.hid h.ints
  have HBD := Lib.hid h.ok.bd
  clear h
  go_enter Try.func18, Try.ntmps18
  go_upto_region 4 with fail
  obtain ⟨r, hr⟩ : ∃ r, w.heap.size = r := ⟨_, rfl⟩
  have HR : Hid (w.heap.size = r ∧ B.p < r) := Lib.hid ⟨hr, by have := heap_lt HP.out.p; omega⟩
  rw [hr] at h1
  rw [hr]
  have HX1 := Lib.hid hx1
  have H1 := Lib.hid h1
  have hp1 := HP.out.ext hx1
  have q3 : w1.cell? ⟨B.p, 3, none⟩ = some (.slice (some ⟨B.c, 0, none⟩) P.col.length B.kc) := cell_of_heap hp1.p rfl
  have q4 : w1.cell? ⟨B.p, 4, none⟩ = some (.slice (some ⟨B.d, 0, none⟩) P.dz.length B.kd) := cell_of_heap hp1.p rfl
  have q5 : w1.cell? ⟨B.p, 5, none⟩ = some (.slice (some ⟨B.m, 0, none⟩) P.ms.length B.km) := cell_of_heap hp1.p rfl
  have n1 := heap_lt hp1.p
  have nr := heap_lt h1
  have b1 : B.p ≠ r := by have := HR.out; omega
  have b2 : r ≠ B.p := by have := HR.out; omega
  clear h1 hx1 hp1 hst1 l0 n0 hr
  go_region_held3 (fun w' => w'.cell? ⟨B.p, 3, none⟩ = some (.slice (some ⟨B.c, 0, none⟩) P.col.length B.kc) ∧ w'.cell? ⟨B.p, 4, none⟩ = some (.slice (some ⟨B.d, 0, none⟩) P.dz.length B.kd) ∧ w'.cell? ⟨B.p, 5, none⟩ = some (.slice (some ⟨B.m, 0, none⟩) P.ms.length B.km)) (go_keep) (first
    | (go_at_call_of 66 (Value.slice (some ⟨B.c, 0, none⟩) P.col.length B.kc); refine (clone_u8 _ P.col _ (HIN.out.1.ext HX1.out.drew) (by have := HBD.out; omega)).mono ?_; rintro _ w2 ⟨a1, k1, rfl, ho1, _, hx2⟩; have g3 := hx2.cell q3; have g4 := hx2.cell q4; have g5 := hx2.cell q5)
    | (go_at_call_of 67 (Value.slice (some ⟨B.d, 0, none⟩) P.dz.length B.kd); refine (clone_u16 _ P.dz _ (HIN.out.2.1.ext (HX1.out.drew.trans hx2)) (by have := HBD.out; omega)).mono ?_; rintro _ w3 ⟨a2, k2, rfl, ho2, hx3⟩; have g3 := hx3.cell g3; have g4 := hx3.cell g4; have g5 := hx3.cell g5)
    | (go_at_call_of 66 (Value.slice (some ⟨B.m, 0, none⟩) P.ms.length B.km); refine (clone_u8 _ P.ms _ (HIN.out.2.2.ext (HX1.out.drew.trans (hx2.trans hx3))) (by have := HBD.out; omega)).mono ?_; rintro _ w4 ⟨a3, k3, rfl, ho3, _, hx4⟩; have g3 := hx4.cell g3; have g4 := hx4.cell g4; have g5 := hx4.cell g5; have H4 := Lib.hid (((Ext.refl w1).drew.trans (hx2.trans (hx3.trans hx4))).heap H1.out); have f3 : w4.frozen? ⟨r, 3, none⟩ = false := free_of_heap H4.out; have f4 : w4.frozen? ⟨r, 4, none⟩ = false := free_of_heap H4.out; have f5 : w4.frozen? ⟨r, 5, none⟩ = false := free_of_heap H4.out; have v3 : w4.cell? ⟨r, 3, none⟩ = some (.slice (some ⟨B.c, 0, none⟩) P.col.length B.kc) := cell_of_heap H4.out rfl; have v4 : w4.cell? ⟨r, 4, none⟩ = some (.slice (some ⟨B.d, 0, none⟩) P.dz.length B.kd) := cell_of_heap H4.out rfl; have v5 : w4.cell? ⟨r, 5, none⟩ = some (.slice (some ⟨B.m, 0, none⟩) P.ms.length B.km) := cell_of_heap H4.out rfl; have n4 := heap_lt H4.out))
  have HO1 := Lib.hid ho1
  have HO2 := Lib.hid ho2
  have HO3 := Lib.hid ho3
  have HXS := Lib.hid (HX1.out.drew.trans (hx2.trans (hx3.trans hx4)))
  have HS2 : Hid (r < w2.heap.size ∧ w2.heap.size ≤ w3.heap.size ∧ w3.heap.size ≤ w4.heap.size ∧ w1.heap.size ≤ w2.heap.size) := Lib.hid (by
    have e1 : w1.drew.heap.size = w1.heap.size := rfl
    have := hx2.size
    have := hx3.size
    have := hx4.size
    have := heap_lt H1.out
    omega)
  have HX2 := Lib.hid hx2
  have HX3 := Lib.hid hx3
  have HX4 := Lib.hid hx4
  clear ho1 ho2 ho3 hx2 hx3 hx4 q3 q4 q5 g3 g4 g5
  go_wp2_with fail
  go_ret
  obtain ⟨c, kc, tc, ec, bc, hc, lc, mc⟩ := owns_tail HO1.out HBD.out.2.2.2.1
  obtain ⟨d, kd, td, ed, bd, hd, ld, md⟩ := owns_tail HO2.out HBD.out.2.2.2.2.1
  obtain ⟨m, km, tm, em, bm, hm, lm, mm⟩ := owns_tail HO3.out HBD.out.2.2.2.2.2
  simp only [Value.slice.injEq] at ec ed em
  obtain ⟨rfl, _, rfl⟩ := ec
  obtain ⟨rfl, _, rfl⟩ := ed
  obtain ⟨rfl, _, rfl⟩ := em
  have hs := HS2.out
  have hr := HR.out
  have hcl := heap_lt hc
  have hdl := heap_lt hd
  have hml := heap_lt hm
  have e1 : w1.drew.heap.size = w1.heap.size := rfl
  have hr1 := heap_lt H1.out
  have g1 := heap_set (k := 3) (u := .slice (some ⟨c, 0, none⟩) P.col.length k1) H4.out
  have g2 := heap_set (k := 4) (u := .slice (some ⟨d, 0, none⟩) P.dz.length k2) g1
  have g3 := heap_set (k := 5) (u := .slice (some ⟨m, 0, none⟩) P.ms.length k3) g2
  have hch : Chg [r] w4 (((w4.setCell ⟨r, 3, none⟩ (.slice (some ⟨c, 0, none⟩) P.col.length k1)).setCell ⟨r, 4, none⟩ (.slice (some ⟨d, 0, none⟩) P.dz.length k2)).setCell ⟨r, 5, none⟩ (.slice (some ⟨m, 0, none⟩) P.ms.length k3)) := (((Chg.refl _ _).setCell (p := ⟨r, 3, none⟩) (by simp) _).setCell (p := ⟨r, 4, none⟩) (by simp) _).setCell (p := ⟨r, 5, none⟩) (by simp) _
  refine ⟨⟨r, c, d, m, tc, td, tm, k1, k2, k3⟩, rfl, show w.heap.size ≤ r by omega, ?_, ?_, ?_, ⟨HP.out.ok, ?_, g3, hch.heap ((HX3.out.trans HX4.out).heap hc) ?_, hch.heap (HX4.out.heap hd) ?_, hch.heap hm ?_, ?_⟩, HXS.out.chgTrans hch ?_⟩
  · show w.heap.size ≤ c
    omega
  · show w.heap.size ≤ d
    omega
  · show w.heap.size ≤ m
    omega
  · show r ≠ c ∧ r ≠ d ∧ r ≠ m ∧ c ≠ d ∧ c ≠ m ∧ d ≠ m
    omega
  · simp; omega
  · simp; omega
  · simp; omega
  · refine ⟨⟨?_, mc⟩, ⟨?_, md⟩, ⟨?_, mm⟩⟩
    · rw [← HP.out.ok.col]; exact lc
    · rw [← HP.out.ok.dz]; exact ld
    · rw [← HP.out.ok.ms]; exact lm
  · simp; omega
end
end Go.Proofs.Ytgdcdkajicgliaa
namespace Go.Proofs.Ytgdcdkajicgliaa
open Go.RowKit
set_option linter.unusedVariables false
set_option maxRecDepth 100000
set_option linter.unusedSimpArgs false

/-- append where there is no room, as one step of a region that draws. -/
theorem step_append_grows {P : Program} {ops : Array Oper} {o : Oper} {a : Act} {w : World} {K : Act → World → Prop} {Q : Exit → Act → World → Prop} {E : Prop}
    (hg : o.guard = none) (s x : Operand) (t : TypeId) (hop : o.op = Op.call { callee := Callee.builtin Builtin.append, args := #[s, x], argTypes := #[t, t] })
    (e : TypeId) (i : TypeInfo) (z : Value) (size bytes : Nat) (h1 : P.underlying t = some (.slice e)) (h2 : P.info? e = some i) (h3 : i.zero = some z) (h4 : i.size = size) (h5 : i.bytes = bytes) (h6 : z.cells.size = size) (h7 : 0 < size)
    (b : Addr) (n cap : Nat) (olds : List Value) (hs : a.eval s = .slice (some b) n cap) (hlo : olds.length = n * size) (holds : ∀ j u, olds[j]? = some u → w.cell? (b.add j) = some u)
    (ad : Addr) (m c : Nat) (news : List Value) (hx : a.eval x = .slice (some ad) m c) (hl : news.length = m * size) (hnews : ∀ j u, news[j]? = some u → w.cell? (ad.add j) = some u)
    (hgr : cap < n + m) (h63 : n + m ≤ maxLen) (hbytes : (n + m) * bytes ≤ 140737488355328)
    (hK : ∀ v' w', w'.ownsRow w.heap.size e size v' (n + m) (olds ++ news) → w.grownBy w' none → K (a.put o.dst v') w') :
    if Region.wanted o (yielded ops a.tmps) = true then Oper.wp P o a w K Q else E := by
  have hw : Region.wanted o (yielded ops a.tmps) = true := by simp [Region.wanted, hg]
  rw [if_pos hw]
  obtain ⟨v', w', hrun, hown, hgrow⟩ := run_append_arg_grows (P := P) w t o.type e i z size bytes h1 h2 h3 h4 h5 h6 h7 b n cap olds hlo holds ad m c news hl hnews hgr h63 hbytes
  unfold Oper.wp
  simp [execOp, hop, resolve, invoke, builtin, hs, hx, hrun, Result.andThen]
  exact hK v' w' hown hgrow
theorem info_fix : (Try.prog.info? 24).map (fun i => (i.zero, i.size, i.bytes)) = some (some (.int .i32 0), 1, 4) := by kernel_rfl
def n01 (z : Int) : Bool := decide (0 ≤ z) && decide (z ≤ 65536)
def Ce.L5 (c : Ce) : List Int := [c.v.a, c.v.b, c.v.c, c.v.d, c.dep]
/-- May a cell be? -/
def mayB (c : Ce) : Bool := c.L5.all n01 && (decide (0 ≤ c.sten) && decide (c.sten ≤ 255))
theorem mayB_ok {c : Ce} (h : mayB c = true) : c.Ok := by
  unfold mayB Ce.L5 n01 at h
  simp only [List.all_cons, List.all_nil, Bool.and_true, Bool.and_eq_true, decide_eq_true_eq] at h
  refine ⟨?_, by omega, by omega⟩
  intro x hx
  simp only [V4.L, List.mem_cons, List.not_mem_nil, or_false] at hx
  rcases hx with rfl | rfl | rfl | rfl <;> omega
theorem mayB_bad {c : Ce} {k : Nat} (hk : k < 5) (h : n01 (c.L5.getD k 0) = false) : mayB c = false := by
  unfold mayB
  have hl : c.L5.length = 5 := rfl
  rw [show c.L5.all n01 = false from ?_, Bool.false_and]
  rw [Bool.eq_false_iff]
  intro ha
  have := List.all_eq_true.1 ha (c.L5.getD k 0) (by rw [List.getD_eq_getElem?_getD, List.getElem?_eq_getElem (by omega)]; exact List.getElem_mem _)
  rw [h] at this
  cases this
theorem all5 {c : Ce} (h : ∀ j, j < 5 → n01 (c.L5.getD j 0) = true) : c.L5.all n01 = true := by
  refine List.all_eq_true.2 fun z hz => ?_
  obtain ⟨j, hj, rfl⟩ := List.getElem_of_mem hz
  have := h j hj
  rwa [List.getD_eq_getElem?_getD, List.getElem?_eq_getElem hj] at this
/-- What Lay does at a cell that there is. -/
def LayPost (B : Pb) (P : Pl) (i : Nat) (c : Ce) (w : World) (e : Ending) (w' : World) : Prop := (e = .returned (.int .i64 2) ∧ mayB c = false ∧ Ext w w') ∨ (e = .returned (.int .i64 0) ∧ mayB c = true ∧ PlAt w' B (layV P i c) ∧ Chg [B.c, B.d, B.m] w w')
section
attribute [local go_sem ↓] Ld_V4 St_V4 Ld_Ce St_Ce Ld_St Ld_Sd
theorem layp_out (B : Pb) (P : Pl) (x y : Int) (c : Ce) (hi : inP P.W P.H x y = false) (w : World) (h : PlAt w B P) : Calls Try.prog 19 #[.pointer (some ⟨B.p, 0, none⟩), .int .i64 x, .int .i64 y, .agg c.C.toArray] w fun e w' => e = .returned (.int .i64 2) ∧ Ext w w' := by
  have HF := Lib.hid (fun w h => find_out B P x y hi w h)
  have HP := Lib.hid h
  clear h hi
  go_enter Try.func19, Try.ntmps19
  go_wp2_with (go_at_call 64; refine (HF.out _ (HP.out.ext ((Ext.refl _).alloc _))).mono ?_; rintro _ w1 ⟨rfl, hx1⟩)
  go_ret
  exact ⟨rfl, ((Ext.refl _).alloc _).trans hx1⟩
set_option maxHeartbeats 4000000 in
theorem layp_in (B : Pb) (P : Pl) (x y : Nat) (c : Ce) (hx : x < P.W) (hy : y < P.H) (w : World) (h : PlAt w B P) : Calls Try.prog 19 #[.pointer (some ⟨B.p, 0, none⟩), .int .i64 x, .int .i64 y, .agg c.C.toArray] w (LayPost B P (y * P.W + x) c w) := by
  obtain ⟨i0, hi, hz0, hz1, hz2⟩ := info_parts info_fix
  have HF := Lib.hid (fun w h => find_in B P x y hx hy w h)
  have HP := Lib.hid h
  have HI := Lib.hid (place_lt hx hy)
  have HBL : Hid (B.p < w.heap.size ∧ B.c < w.heap.size ∧ B.d < w.heap.size ∧ B.m < w.heap.size) := Lib.hid ⟨heap_lt h.p, heap_lt h.c, heap_lt h.d, heap_lt h.m⟩
  generalize y * P.W + x = I at *
  clear hx hy h
  go_enter Try.func19, Try.ntmps19
  go_upto_region 1 with fail
  obtain ⟨w0, hw0, h0, hx0⟩ : ∃ w0, w.alloc (.cells c.C.toArray 45) = w0 ∧ CAt w0 w.heap.size c ∧ Ext w w0 := ⟨_, rfl, heap_alloc_new _ _, (Ext.refl _).alloc _⟩
  rw [hw0]
  obtain ⟨r, hr⟩ : ∃ r, w.heap.size = r := ⟨_, rfl⟩
  have HR := Lib.hid hr
  rw [hr] at h0 HBL
  rw [hr]
  have HX0 := Lib.hid hx0
  have H0 := Lib.hid h0
  clear hw0 h0 hx0 hr
  go_upto_region 4 with (go_at_call 64; refine (HF.out _ (HP.out.ext HX0.out)).mono ?_; rintro _ w1 ⟨rfl, hx1⟩)
  have HX1 := Lib.hid (HX0.out.trans hx1)
  have H1 := Lib.hid (H0.out.ext hx1)
  have c4 : w1.cell? ⟨r, 4, none⟩ = some (.int .i32 c.dep) := cell_of_heap H1.out rfl
  have n1 := heap_lt H1.out
  have HOLD : Hid (∀ w', Ext w1 w' → ∀ j u, ([Value.int .i32 c.v.a, .int .i32 c.v.b, .int .i32 c.v.c, .int .i32 c.v.d])[j]? = some u → w'.cell? ((⟨r, 0, none⟩ : Addr).add j) = some u) := Lib.hid fun w' x' j u hu => by
    rw [Addr.add_lit, Nat.zero_add]
    refine cell_of_heap (x'.heap H1.out) ?_
    have hj : j < 4 := (List.getElem?_eq_some_iff.1 hu).1
    have : j = 0 ∨ j = 1 ∨ j = 2 ∨ j = 3 := by omega
    rcases this with rfl | rfl | rfl | rfl <;> exact hu
  clear hx1
  go_region_law (refine step_append_grows rfl _ _ 135 rfl 24 i0 (.int .i32 0) 1 4 Try.underlying135 hi hz0 hz1 hz2 rfl (by decide) ⟨r, 0, none⟩ 4 4 [Value.int .i32 c.v.a, .int .i32 c.v.b, .int .i32 c.v.c, .int .i32 c.v.d] rfl rfl (HOLD.out _ ((Ext.refl _).drew.alloc _)) ⟨w1.drew.heap.size, 0, none⟩ 1 1 [Value.int .i32 c.dep] rfl rfl (World.news_of_block (heap_alloc_new _ _)) (by decide) (by decide) (by decide) ?_; intro v' w2 hown hgrow; obtain ⟨g, cap, tl, rfl, hgb, hgh, hgl, hgm⟩ := owns_tail hown (by decide))
  have hx2 : Ext w1 w2 := ((Ext.refl w1).alloc (.cells #[.int .i32 c.dep] 24)).drew.grown hgrow (by simp)
  have HX2 := Lib.hid (HX1.out.trans hx2)
  have H2 := Lib.hid (H1.out.ext hx2)
  have HE : Hid (∀ k, k < 5 → w2.cell? ⟨g, k, none⟩ = some (.int .i32 (c.L5.getD k 0))) := Lib.hid fun k hk => cell_of_heap hgh (by
    have : k = 0 ∨ k = 1 ∨ k = 2 ∨ k = 3 ∨ k = 4 := by omega
    rcases this with rfl | rfl | rfl | rfl | rfl <;> rfl)
  have ng := heap_lt hgh
  clear hgrow hown hgb hgh hgl hgm hx2 HOLD c4 n1
  simp only [List.getElem_toArray, List.getElem_cons_succ, List.getElem_cons_zero, Act.put, List.setIfInBounds_toArray, List.set_cons_succ, List.set_cons_zero]
  go_wp2_with fail
  go_loop [30] (fun i => ∃ k : Nat, k ≤ 5 ∧ i = .int .i64 k ∧ Hid (∀ j, j < k → n01 (c.L5.getD j 0) = true)) (fun i => 5 - (intOf i).toNat)
  case atStart => exact ⟨0, by omega, rfl, Lib.hid (fun j hj => by omega)⟩
  case round =>
    obtain ⟨k, hk, rfl, HK⟩ := hrel
    by_cases hlt : k < 5
    · have hki : (k : Int) < 5 := by omega
      have ek := HE.out k hlt
      obtain ⟨z, hz⟩ : ∃ z, c.L5.getD k 0 = z := ⟨_, rfl⟩
      have HZ := Lib.hid hz
      rw [hz] at ek
      clear hz
      by_cases z0 : z < 0
      · go_wp2_with fail
        go_ret
        exact .inl ⟨rfl, mayB_bad hlt (by rw [HZ.out]; unfold n01; rw [decide_eq_false (by omega)]; rfl), HX2.out⟩
      · by_cases z1 : 65536 < z
        · go_wp2_with fail
          go_ret
          exact .inl ⟨rfl, mayB_bad hlt (by rw [HZ.out]; unfold n01; rw [decide_eq_false (show ¬ z ≤ 65536 by omega), Bool.and_false]), HX2.out⟩
        · have HK2 : Hid (∀ j, j < k + 1 → n01 (c.L5.getD j 0) = true) := Lib.hid (fun j hj => by
            by_cases e : j = k
            · subst e
              rw [HZ.out]
              unfold n01
              rw [decide_eq_true (show 0 ≤ z by omega), decide_eq_true (show z ≤ 65536 by omega)]
              rfl
            · exact HK.out j (by omega))
          go_wp2_with fail
          go_round
          case rel => exact ⟨k + 1, by omega, by go_num, HK2⟩
          case measure => simp [intOf]; omega
    · obtain rfl : k = 5 := by omega
      have HA := Lib.hid (all5 HK.out)
      have c5 : w2.cell? ⟨r, 5, none⟩ = some (.int .i64 c.sten) := cell_of_heap H2.out rfl
      have l2 := CAt.load2 H2.out
      have n2 := heap_lt H2.out
      by_cases s0 : c.sten < 0
      · go_wp2_with fail
        go_ret
        exact .inl ⟨rfl, by unfold mayB; rw [decide_eq_false (show ¬ 0 ≤ c.sten by omega), Bool.false_and, Bool.and_false], HX2.out⟩
      · by_cases s1 : 255 < c.sten
        · go_wp2_with fail
          go_ret
          exact .inl ⟨rfl, by unfold mayB; rw [decide_eq_false (show ¬ c.sten ≤ 255 by omega), Bool.and_false, Bool.and_false], HX2.out⟩
        · have HM : Hid (mayB c = true) := Lib.hid (by unfold mayB; rw [HA.out, decide_eq_true (show 0 ≤ c.sten by omega), decide_eq_true (show c.sten ≤ 255 by omega)]; rfl)
          have HL := Lib.hid (lay_any B P I c HI.out (mayB_ok HM.out).In w2 (HP.out.ext HX2.out))
          go_wp2_with (go_at_call 63; refine HL.out.mono ?_; rintro _ w3 ⟨rfl, hp3, hc3⟩)
          go_ret
          exact .inr ⟨rfl, HM.out, hp3, (HX2.out.chg _).trans hc3⟩
end
theorem layp_bad (B : Pb) (P : Pl) (x y : Nat) (c : Ce) (hx : x < P.W) (hy : y < P.H) (hm : mayB c = false) (w : World) (h : PlAt w B P) : Calls Try.prog 19 #[.pointer (some ⟨B.p, 0, none⟩), .int .i64 x, .int .i64 y, .agg c.C.toArray] w fun e w' => e = .returned (.int .i64 2) ∧ Ext w w' :=
  (layp_in B P x y c hx hy w h).mono (by
    rintro _ _ (⟨rfl, _, hx⟩ | ⟨_, h2, _⟩)
    · exact ⟨rfl, hx⟩
    · rw [hm] at h2; cases h2)
theorem layp_ok (B : Pb) (P : Pl) (x y : Nat) (c : Ce) (hx : x < P.W) (hy : y < P.H) (hm : mayB c = true) (w : World) (h : PlAt w B P) : Calls Try.prog 19 #[.pointer (some ⟨B.p, 0, none⟩), .int .i64 x, .int .i64 y, .agg c.C.toArray] w fun e w' => e = .returned (.int .i64 0) ∧ PlAt w' B (layV P (y * P.W + x) c) ∧ Chg [B.c, B.d, B.m] w w' :=
  (layp_in B P x y c hx hy w h).mono (by
    rintro _ _ (⟨_, h2, _⟩ | ⟨rfl, _, h3, h4⟩)
    · rw [hm] at h2; cases h2
    · exact ⟨rfl, h3, h4⟩)
end Go.Proofs.Ytgdcdkajicgliaa
