/- Unpack where it refuses; the document's Size, widths, Unpack. Conditions: each theorem's own premises. -/
import Derived.Test.YtgdcdkajicgliaaPix4
namespace Go.Proofs.Ytgdcdkajicgliaa
open Go.RowKit
set_option linter.unusedVariables false
set_option maxRecDepth 100000

set_option maxHeartbeats 1000000 in
theorem unpack_bad (n : Int) (v : Value) (zs : List Int) (w : World) (hn : n < 1 ∨ 8 ≤ n) (h : Ints .u8 w v zs) : Calls Try.prog 91 #[.int .i64 n, v] w fun e w' => e = .returned (.tuple #[.agg #[.int .i32 0, .int .i32 0, .int .i32 0, .int .i32 0], .int .i64 2]) ∧ Ext w w' := by
  have hzf := zero_format
  have hfi := Lib.hid (fun w => find_bad n w hn)
  clear hn
  go_enter Try.func91, Try.ntmps91
  go_wp2_with (first | (go_at_call 85; refine (hfi.out _).mono ?_; rintro e w1 ⟨rfl, hx⟩; have hres1 := hx.heap (heap_alloc_new _ _); have hres2 := ((Ext.refl w1).alloc (.cells #[.int .i64 0, .slice none 0 0, .int .i32 0, .int .i32 0, .int .i32 0, .int .i32 0] 159)).heap hres1) | (refine wpList_store_whole rfl 26 _ _ rfl w.heap.size #[.int .i32 0, .int .i32 0, .int .i32 0, .int .i32 0] rfl rfl #[.int .i32 0, .int .i32 0, .int .i32 0, .int .i32 0] 26 hres2 rfl info_vec (by simp [Value.oneCell']) ?_; intro w7 hw7 hc7))
  have hload := run_loadVar_whole (P := Try.prog) 26 _ hw7 Try.underlying26 rfl info_vec
  refine bodyPost_ret (results_cell2 rfl _ _ _ _ rfl hload) rfl ?_
  exact ⟨rfl, (((Ext.refl w).alloc _).trans (hx.alloc _)).chgTrans hc7 (by simp)⟩

set_option maxHeartbeats 1000000 in
theorem unpack_short (n : Nat) (v : Value) (zs : List Int) (w : World) (h1 : 1 ≤ n) (h7 : n ≤ 7) (h : Ints .u8 w v zs) (hl : (zs.length : Int) ≠ szV n) : Calls Try.prog 91 #[.int .i64 (n : Int), v] w fun e w' => e = .returned (.tuple #[.agg #[.int .i32 0, .int .i32 0, .int .i32 0, .int .i32 0], .int .i64 7]) ∧ Ext w w' := by
  obtain ⟨hlen, a, cap, rfl, hn, hc, hz, hp⟩ := h.1
  have hfi := Lib.hid (fun w => find_any n w h1 h7)
  have hzf := zero_format
  have hl' : ((zs.length : Int) != szV n) = true := by simpa using hl
  generalize szV (n : Int) = S at *
  generalize (chL n).length = L at *
  generalize (restL n).getD 0 0 = r0 at *
  generalize (restL n).getD 1 0 = r1 at *
  generalize (restL n).getD 2 0 = r2 at *
  generalize (restL n).getD 3 0 = r3 at *
  clear h hlen hp hl
  go_enter Try.func91, Try.ntmps91
  go_wp2_with (first | (go_at_call 85; refine (hfi.out _).mono ?_; rintro e w1 ⟨c, rfl, hch, hcw, hx⟩; have hres1 := hx.heap (heap_alloc_new _ _); have hres2 := ((Ext.refl w1).alloc (.cells #[.int .i64 S, .slice (some ⟨c, 0, none⟩) L L, .int .i32 r0, .int .i32 r1, .int .i32 r2, .int .i32 r3] 159)).heap hres1; clear hch hcw) | (refine wpList_store_whole rfl 26 _ _ rfl w.heap.size #[.int .i32 0, .int .i32 0, .int .i32 0, .int .i32 0] rfl rfl #[.int .i32 0, .int .i32 0, .int .i32 0, .int .i32 0] 26 hres2 rfl info_vec (by simp [Value.oneCell']) ?_; intro w7 hw7 hc7))
  have hload := run_loadVar_whole (P := Try.prog) 26 _ hw7 Try.underlying26 rfl info_vec
  refine bodyPost_ret (results_cell2 rfl _ _ _ _ rfl hload) rfl ?_
  exact ⟨rfl, (((Ext.refl w).alloc _).trans (hx.alloc _)).chgTrans hc7 (by simp)⟩

theorem leN_drop (l : List Int) (m : Nat) (h : m < l.length) : leN (l.drop m) = l.getD m 0 + 256 * leN (l.drop (m + 1)) := by
  rw [List.drop_eq_getElem_cons h, leN, List.getD_eq_getElem?_getD, List.getElem?_eq_getElem h]; rfl

set_option maxHeartbeats 1000000 in
/-- The reference's Number. -/
theorem refnumber_any (v : Value) (l : List Int) (w : World) (h : Ints .u8 w v l) (hl : l.length ≤ 4) :
    Calls Try.prog 130 #[v] w fun e w' => e = .returned (.int .u64 (leN l)) ∧ w = w' := by
  obtain ⟨a1, k1, rfl⟩ : ∃ a cap, v = .slice a l.length cap := by obtain ⟨⟨_, a, cap, rfl, _⟩, _⟩ := h; exact ⟨a, cap, rfl⟩
  go_enter Try.func130, Try.ntmps130
  go_wp2
  go_loop [3, 4] (fun x i => ∃ j : Nat, j ≤ l.length ∧ i = .int .i64 ((j : Int) - 1) ∧ x = .int .u64 (leN (l.drop j))) (fun _ i => (intOf i + 1).toNat)
  case atStart => exact ⟨l.length, Nat.le_refl _, rfl, by simp [leN]⟩
  case round =>
    obtain ⟨j, hj, rfl, rfl⟩ := hrel
    rcases j with _ | m
    · go_wp2
      go_ret
      exact ⟨rfl, rfl⟩
    · have e1 : ((m + 1 : Nat) : Int) - 1 = (m : Int) := by omega
      rw [e1]
      have hlt : m < l.length := by omega
      obtain ⟨b, off, rfl, hbl, hcell⟩ := h.pos (by omega)
      have hc := hcell m hlt
      have hw := u8_of_wf (h.2 (l.getD m 0) (by rw [List.getD_eq_getElem?_getD, List.getElem?_eq_getElem hlt]; exact List.getElem_mem hlt))
      have hst := Lib.hid (leN_drop l m hlt)
      have hbd := leN_bound (l.drop (m + 1)) fun z hz => u8_of_wf (h.2 z (List.mem_of_mem_drop hz))
      have hbd2 : leN (l.drop (m + 1)) < 16777216 := by
        have := pow256_le (l.drop (m + 1)).length 3 (by simp; omega)
        omega
      have hbd1 := hbd.1
      clear hbd e1 hcell
      generalize leN (l.drop (m + 1)) = y at *
      generalize l.getD m 0 = c at *
      obtain ⟨hw0, hw1⟩ := hw
      go_wp2
      go_round
      case rel => exact ⟨m, by omega, rfl, by rw [hst.out]; first | done | go_num⟩
      case measure => simp [intOf]


def widL (n : Nat) : List Nat := if n = 2 then [5, 6, 5, 0] else if n = 3 then [4, 4, 4, 4] else [5, 5, 5, 1]
def widC (n : Nat) : Array Value := ((widL n).map fun (x : Nat) => Value.int .i64 (x : Int)).toArray
theorem info_wid : (Try.prog.info? 180).map (·.size) = some 4 := by kernel_rfl
theorem widths_any (n : Nat) (w : World) : Calls Try.prog 104 #[.int .i64 (n : Int)] w fun e w' => e = .returned (.agg (widC n)) ∧ Ext w w' := by
  by_cases h2 : n = 2
  · subst h2
    have hload := run_loadVar_whole (P := Try.prog) 180 _ (heap_alloc_new w (.cells (widC 2) 180)) Try.underlying180 rfl info_wid
    go_enter Try.func104, Try.ntmps104
    go_wp2
    exact bodyPost_ret (results_cell1 rfl _ _ _ _ rfl hload) rfl ⟨rfl, (Ext.refl _).alloc _⟩
  · by_cases h3 : n = 3
    · subst h3
      have hload := run_loadVar_whole (P := Try.prog) 180 _ (heap_alloc_new w (.cells (widC 3) 180)) Try.underlying180 rfl info_wid
      go_enter Try.func104, Try.ntmps104
      go_wp2
      exact bodyPost_ret (results_cell1 rfl _ _ _ _ rfl hload) rfl ⟨rfl, (Ext.refl _).alloc _⟩
    · have hw : widC n = #[.int .i64 5, .int .i64 5, .int .i64 5, .int .i64 1] := by unfold widC widL; rw [if_neg h2, if_neg h3]; rfl
      have hl' := run_loadVar_whole (P := Try.prog) 180 _ (heap_alloc_new w (.cells #[.int .i64 5, .int .i64 5, .int .i64 5, .int .i64 1] 180)) Try.underlying180 rfl info_wid
      have h2' : ((n : Int) == 2) = false := by simp; omega
      have h3' : ((n : Int) == 3) = false := by simp; omega
      rw [hw]
      clear h2 h3 hw
      go_enter Try.func104, Try.ntmps104
      go_wp2
      exact bodyPost_ret (results_cell1 rfl _ _ _ _ rfl hl') rfl ⟨rfl, (Ext.refl _).alloc _⟩

theorem number_core (z : Int) (h : 0 ≤ z ∧ z < 256) : z < 2 ^ 8 := by
  have : (2 : Int) ^ 8 = 256 := by decide
  omega

set_option maxHeartbeats 4000000 in
set_option maxRecDepth 20000 in
theorem refunp5 (v : Value) (z : Int) (w : World) (h : Ints .u8 w v [z]) : Calls Try.prog 111 #[.int .i64 5, v] w fun e w' => e = .returned (.agg (vecC (unpV 5 (leN [z])))) ∧ Ext w w' := by
  obtain ⟨hlen, a, cap, rfl, hn, hc, hz, hp⟩ := h.1
  obtain ⟨b, off, rfl, hb, hcell⟩ := hp (by simp)
  have c0 : w.cell? ⟨b, off, none⟩ = some (.int .u8 z) := hcell 0 _ rfl
  have hz := u8_of_wf (h.2 z (by simp))
  have hz0 := hz.1
  have Hz := Lib.hid (number_core z hz)
  have HV := Lib.hid (show unpV 5 (leN [z]) = [numV z 8, numV z 8, numV z 8, 65536] by
    have e0 : (z + 256 * 0) / 2 ^ 0 % 2 ^ 8 = z := by omega
    simp only [unpV, outU, chL, restL, leN, List.foldl, e0]
    rfl)
  have HNz := Lib.hid (fun w => refNumber_any z 8 w hz0 Hz.out (by decide) (by decide))
  clear h hlen hp hcell
  rw [HV.out]
  go_enter Try.func111, Try.ntmps111
  go_wp2_with (first | (go_at_call_of 112 (Value.int IntKind.u32 z); refine (HNz.out _).mono ?_; rintro e w' ⟨rfl, rfl⟩))
  have hload := run_loadVar_whole (P := Try.prog) 26 _ (heap_alloc_new w (.cells (vecC [numV z 8, numV z 8, numV z 8, 65536]) 26)) Try.underlying26 rfl info_vec
  exact bodyPost_ret (results_cell1 rfl _ _ _ _ rfl hload) rfl ⟨rfl, (Ext.refl _).alloc _⟩

set_option maxHeartbeats 4000000 in
set_option maxRecDepth 20000 in
theorem refunp6 (v : Value) (z : Int) (w : World) (h : Ints .u8 w v [z]) : Calls Try.prog 111 #[.int .i64 6, v] w fun e w' => e = .returned (.agg (vecC (unpV 6 (leN [z])))) ∧ Ext w w' := by
  obtain ⟨hlen, a, cap, rfl, hn, hc, hz, hp⟩ := h.1
  obtain ⟨b, off, rfl, hb, hcell⟩ := hp (by simp)
  have c0 : w.cell? ⟨b, off, none⟩ = some (.int .u8 z) := hcell 0 _ rfl
  have hz := u8_of_wf (h.2 z (by simp))
  have hz0 := hz.1
  have Hz := Lib.hid (number_core z hz)
  have HV := Lib.hid (show unpV 6 (leN [z]) = [0, 0, 0, numV z 8] by
    have e0 : (z + 256 * 0) / 2 ^ 0 % 2 ^ 8 = z := by omega
    simp only [unpV, outU, chL, restL, leN, List.foldl, e0]
    rfl)
  have HNz := Lib.hid (fun w => refNumber_any z 8 w hz0 Hz.out (by decide) (by decide))
  clear h hlen hp hcell
  rw [HV.out]
  go_enter Try.func111, Try.ntmps111
  go_wp2_with (first | (go_at_call_of 112 (Value.int IntKind.u32 z); refine (HNz.out _).mono ?_; rintro e w' ⟨rfl, rfl⟩))
  have hload := run_loadVar_whole (P := Try.prog) 26 _ (heap_alloc_new w (.cells (vecC [0, 0, 0, numV z 8]) 26)) Try.underlying26 rfl info_vec
  exact bodyPost_ret (results_cell1 rfl _ _ _ _ rfl hload) rfl ⟨rfl, (Ext.refl _).alloc _⟩

set_option maxHeartbeats 4000000 in
set_option maxRecDepth 20000 in
theorem refunp7 (v : Value) (z y : Int) (w : World) (h : Ints .u8 w v [z, y]) : Calls Try.prog 111 #[.int .i64 7, v] w fun e w' => e = .returned (.agg (vecC (unpV 7 (leN [z, y])))) ∧ Ext w w' := by
  obtain ⟨hlen, a, cap, rfl, hn, hc, hz, hp⟩ := h.1
  obtain ⟨b, off, rfl, hb, hcell⟩ := hp (by simp)
  have c0 : w.cell? ⟨b, off, none⟩ = some (.int .u8 z) := hcell 0 _ rfl
  have hz := u8_of_wf (h.2 z (by simp))
  have hz0 := hz.1
  have Hz := Lib.hid (number_core z hz)
  have c1 : w.cell? ⟨b, off + 1, none⟩ = some (.int .u8 y) := hcell 1 _ rfl
  have hy := u8_of_wf (h.2 y (by simp))
  have hy0 := hy.1
  have Hy := Lib.hid (number_core y hy)
  have HV := Lib.hid (show unpV 7 (leN [z, y]) = [numV z 8, numV z 8, numV z 8, numV y 8] by
    have e0 : (z + 256 * (y + 256 * 0)) / 2 ^ 0 % 2 ^ 8 = z := by omega
    have e1 : (z + 256 * (y + 256 * 0)) / 2 ^ 8 % 2 ^ 8 = y := by omega
    simp only [unpV, outU, chL, restL, leN, List.foldl, e0, e1]
    rfl)
  have HNz := Lib.hid (fun w => refNumber_any z 8 w hz0 Hz.out (by decide) (by decide))
  have HNy := Lib.hid (fun w => refNumber_any y 8 w hy0 Hy.out (by decide) (by decide))
  clear h hlen hp hcell
  rw [HV.out]
  go_enter Try.func111, Try.ntmps111
  go_wp2_with (first | (go_at_call_of 112 (Value.int IntKind.u32 z); refine (HNz.out _).mono ?_; rintro e w' ⟨rfl, rfl⟩) | (go_at_call_of 112 (Value.int IntKind.u32 y); refine (HNy.out _).mono ?_; rintro e w' ⟨rfl, rfl⟩))
  have hload := run_loadVar_whole (P := Try.prog) 26 _ (heap_alloc_new w (.cells (vecC [numV z 8, numV z 8, numV z 8, numV y 8]) 26)) Try.underlying26 rfl info_vec
  exact bodyPost_ret (results_cell1 rfl _ _ _ _ rfl hload) rfl ⟨rfl, (Ext.refl _).alloc _⟩

end Go.Proofs.Ytgdcdkajicgliaa
