/- The document's Unpack, in the four formats that draw. Conditions: each theorem's own premises. -/
import Derived.Test.YtgdcdkajicgliaaPix5
namespace Go.Proofs.Ytgdcdkajicgliaa
open Go.RowKit
set_option linter.unusedVariables false
set_option maxRecDepth 100000

set_option maxHeartbeats 4000000 in
set_option maxRecDepth 20000 in
theorem refunp1 (v : Value) (z y x u : Int) (w : World) (h : Ints .u8 w v [z, y, x, u]) : Calls Try.prog 111 #[.int .i64 1, v] w fun e w' => e = .returned (.agg (vecC (unpV 1 (leN [z, y, x, u])))) ∧ Ext w w' := by
  obtain ⟨hlen, a, cap, rfl, hn, hc, hz, hp⟩ := h.1
  obtain ⟨b, off, rfl, hb, hcell⟩ := hp (by simp)
  have c0 : w.cell? ⟨b, off, none⟩ = some (.int .u8 z) := hcell 0 _ rfl
  have hz := u8_of_wf (h.2 z (by simp))
  have hz0 := hz.1
  have Hz := Lib.hid (number_core z hz)
  have c1 : w.cell? ⟨b, off + 1, none⟩ = some (.int .u8 y) := hcell 1 _ rfl
  have hy := u8_of_wf (h.2 y (by simp))
  have hy0 := hy.1
  have Hy := Lib.hid (number_core y hy)
  have c2 : w.cell? ⟨b, off + 2, none⟩ = some (.int .u8 x) := hcell 2 _ rfl
  have hx := u8_of_wf (h.2 x (by simp))
  have hx0 := hx.1
  have Hx := Lib.hid (number_core x hx)
  have c3 : w.cell? ⟨b, off + 3, none⟩ = some (.int .u8 u) := hcell 3 _ rfl
  have hu := u8_of_wf (h.2 u (by simp))
  have hu0 := hu.1
  have Hu := Lib.hid (number_core u hu)
  have HV := Lib.hid (show unpV 1 (leN [z, y, x, u]) = [numV z 8, numV y 8, numV x 8, numV u 8] by
    have e0 : (z + 256 * (y + 256 * (x + 256 * (u + 256 * 0)))) / 2 ^ 0 % 2 ^ 8 = z := by omega
    have e1 : (z + 256 * (y + 256 * (x + 256 * (u + 256 * 0)))) / 2 ^ 8 % 2 ^ 8 = y := by omega
    have e2 : (z + 256 * (y + 256 * (x + 256 * (u + 256 * 0)))) / 2 ^ 16 % 2 ^ 8 = x := by omega
    have e3 : (z + 256 * (y + 256 * (x + 256 * (u + 256 * 0)))) / 2 ^ 24 % 2 ^ 8 = u := by omega
    simp only [unpV, outU, chL, restL, leN, List.foldl, e0, e1, e2, e3]
    rfl)
  have HNz := Lib.hid (fun w => refNumber_any z 8 w hz0 Hz.out (by decide) (by decide))
  have HNy := Lib.hid (fun w => refNumber_any y 8 w hy0 Hy.out (by decide) (by decide))
  have HNx := Lib.hid (fun w => refNumber_any x 8 w hx0 Hx.out (by decide) (by decide))
  have HNu := Lib.hid (fun w => refNumber_any u 8 w hu0 Hu.out (by decide) (by decide))
  have HWz := Lib.hid (wraps_u32 z hz0 (by have := hz.2; omega))
  have HWy := Lib.hid (wraps_u32 y hy0 (by have := hy.2; omega))
  have HWx := Lib.hid (wraps_u32 x hx0 (by have := hx.2; omega))
  have HWu := Lib.hid (wraps_u32 u hu0 (by have := hu.2; omega))
  clear h hlen hp hcell
  rw [HV.out]
  go_enter Try.func111, Try.ntmps111
  go_wp2_with (first | (go_at_call_of 112 (Value.int IntKind.u32 z); refine (HNz.out _).mono ?_; rintro e w' ⟨rfl, rfl⟩) | (go_at_call_of 112 (Value.int IntKind.u32 y); refine (HNy.out _).mono ?_; rintro e w' ⟨rfl, rfl⟩) | (go_at_call_of 112 (Value.int IntKind.u32 x); refine (HNx.out _).mono ?_; rintro e w' ⟨rfl, rfl⟩) | (go_at_call_of 112 (Value.int IntKind.u32 u); refine (HNu.out _).mono ?_; rintro e w' ⟨rfl, rfl⟩))
  go_region_held3 (fun w' => w'.cell? ⟨b, off, none⟩ = some (.int .u8 z) ∧ w'.cell? ⟨b, off + 1, none⟩ = some (.int .u8 y) ∧ w'.cell? ⟨b, off + 2, none⟩ = some (.int .u8 x) ∧ w'.cell? ⟨b, off + 3, none⟩ = some (.int .u8 u)) (go_keep) (first | (go_at_call_of 112 (Value.int IntKind.u32 (IntKind.u32.wrap z)); rw [HWz.out]; refine (HNz.out _).mono ?_; rintro e w' ⟨rfl, rfl⟩) | (go_at_call_of 112 (Value.int IntKind.u32 (IntKind.u32.wrap y)); rw [HWy.out]; refine (HNy.out _).mono ?_; rintro e w' ⟨rfl, rfl⟩) | (go_at_call_of 112 (Value.int IntKind.u32 (IntKind.u32.wrap x)); rw [HWx.out]; refine (HNx.out _).mono ?_; rintro e w' ⟨rfl, rfl⟩) | (go_at_call_of 112 (Value.int IntKind.u32 (IntKind.u32.wrap u)); rw [HWu.out]; refine (HNu.out _).mono ?_; rintro e w' ⟨rfl, rfl⟩))
  go_wp2_with fail
  have hheap : (w.alloc (.cells (vecC [numV z 8, numV y 8, numV x 8, numV u 8]) 26)).drew.heap[w.heap.size]? = some (.cells (vecC [numV z 8, numV y 8, numV x 8, numV u 8]) 26 (0, 0)) := (show (w.alloc (.cells (vecC [numV z 8, numV y 8, numV x 8, numV u 8]) 26)).drew.heap[w.heap.size]? = _ from heap_alloc_new w _)
  have hload := run_loadVar_whole (P := Try.prog) 26 _ hheap Try.underlying26 rfl info_vec
  exact bodyPost_ret (results_cell1 rfl _ _ _ _ rfl hload) rfl ⟨rfl, ((Ext.refl _).alloc _).drew⟩

end Go.Proofs.Ytgdcdkajicgliaa
