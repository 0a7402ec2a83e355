/- The document's names, by value: Left, Right, Bind, Delete, Gen. Conditions: each theorem's own premises. -/
import Derived.Test.YtdomijfkpbganaaNam5
namespace Go.Proofs.Ytdomijfkpbganaa
open Go.RowKit
set_option linter.unusedVariables false

/-- The cells of the document's names. -/
def rfCells (st : List Int) (bd : Int) : Array Value := ((st ++ [bd]).map (Value.int .i64)).toArray
def RfAt (w : World) (p : Nat) (st : List Int) (bd : Int) : Prop := w.heap[p]? = some (.cells (rfCells st bd) 42 (0, 0)) ∧ st.length = 65

theorem rfCells_size {st : List Int} {bd : Int} (h : st.length = 65) : (rfCells st bd).size = 66 := by simp [rfCells, h]
theorem rfCells_one {st : List Int} {bd : Int} : (rfCells st bd).all (·.oneCell') = true := by
  unfold rfCells
  refine all_oneCell_toArray ?_
  simp only [List.mem_map]
  rintro v ⟨x, _, rfl⟩
  rfl
theorem RfAt.lt {w : World} {p : Nat} {st : List Int} {bd : Int} (h : RfAt w p st bd) : p < w.heap.size := heap_lt h.1
theorem RfAt.ext {w w' : World} {p : Nat} {st : List Int} {bd : Int} (h : RfAt w p st bd) (x : Ext w w') : RfAt w' p st bd := ⟨x.heap h.1, h.2⟩
theorem RfAt.chg {M : List Nat} {w w' : World} {p : Nat} {st : List Int} {bd : Int} (h : RfAt w p st bd) (x : Chg M w w') (hp : p ∉ M) : RfAt w' p st bd := ⟨x.heap h.1 hp, h.2⟩
theorem RfAt.cell {w : World} {p : Nat} {st : List Int} {bd : Int} (h : RfAt w p st bd) (i : Nat) (hi : i < 65) : w.cell? ⟨p, i, none⟩ = some (.int .i64 (st.getD i 0)) := by
  refine cell_of_heap h.1 ?_
  have := h.2
  unfold rfCells
  rw [List.getElem?_toArray, List.getElem?_map, List.getElem?_append_left (by omega), List.getElem?_eq_getElem (by omega), List.getD_eq_getElem?_getD, List.getElem?_eq_getElem (by omega)]
  rfl
theorem RfAt.bound {w : World} {p : Nat} {st : List Int} {bd : Int} (h : RfAt w p st bd) : w.cell? ⟨p, 65, none⟩ = some (.int .i64 bd) := by
  refine cell_of_heap h.1 ?_
  have := h.2
  unfold rfCells
  rw [List.getElem?_toArray, List.getElem?_map, List.getElem?_append_right (by omega)]
  simp [this]
theorem RfAt.free {w : World} {p : Nat} {st : List Int} {bd : Int} (h : RfAt w p st bd) (i : Nat) : w.frozen? ⟨p, i, none⟩ = false := free_of_heap h.1
theorem RfAt.setState {w : World} {p : Nat} {st : List Int} {bd : Int} (h : RfAt w p st bd) (i : Nat) (hi : i < 65) (x : Int) : RfAt (w.setCell ⟨p, i, none⟩ (.int .i64 x)) p (st.set i x) bd := by
  refine ⟨?_, by simpa using h.2⟩
  rw [heap_set h.1]
  have := h.2
  unfold rfCells
  simp only [List.setIfInBounds_toArray, Option.some.injEq, Obj.cells.injEq, and_true]
  rw [← List.map_set, List.set_append_left _ _ (by omega)]
theorem RfAt.setBound {w : World} {p : Nat} {st : List Int} {bd : Int} (h : RfAt w p st bd) (x : Int) : RfAt (w.setCell ⟨p, 65, none⟩ (.int .i64 x)) p st x := by
  refine ⟨?_, h.2⟩
  rw [heap_set h.1]
  have := h.2
  unfold rfCells
  simp only [List.setIfInBounds_toArray, Option.some.injEq, Obj.cells.injEq, and_true]
  rw [← List.map_set, List.set_append_right _ _ (by omega)]
  simp [this]

theorem right_any (i : Int) (w : World) : Calls Try.prog 29 #[.int .i64 i] w fun e w' => e = .returned (.bool (i == 0 || isName i)) ∧ w = w' := by
  by_cases h1 : 0 ≤ i
  · by_cases h2 : i ≤ 64
    · have hn : Hid ((i == 0 || isName i) = true) := by simp [Hid, isName]; omega
      go_enter Try.func29, Try.ntmps29
      go_wp2
      go_ret
      exact ⟨by rw [hn.out]; first | rfl | (simp; omega) | simp, rfl⟩
    · have hn : Hid ((i == 0 || isName i) = false) := by simp [Hid, isName]; omega
      go_enter Try.func29, Try.ntmps29
      go_wp2
      go_ret
      exact ⟨by rw [hn.out]; first | rfl | (simp; omega) | simp, rfl⟩
  · have hn : Hid ((i == 0 || isName i) = false) := by simp [Hid, isName]; omega
    go_enter Try.func29, Try.ntmps29
    go_wp2
    go_ret
    exact ⟨by rw [hn.out]; first | rfl | (simp; omega) | simp, rfl⟩

theorem zero_rf (w : World) : (zeroValue 42).run Try.prog w = .ok (.agg (rfCells (List.replicate 65 0) 0)) w := by kernel_rfl
theorem info_rf : (Try.prog.info? 42).map (·.size) = some 66 := by kernel_rfl

theorem rleft_any (st : List Int) (bd : Int) (w : World) (hl : st.length = 65) : Calls Try.prog 27 #[.agg (rfCells st bd)] w fun e w' => e = .returned (.int .i64 (freeL st 64).length) ∧ Ext w w' := by
  have hR : RfAt (w.alloc (.cells (rfCells st bd) 42)) w.heap.size st bd := ⟨heap_alloc_new _ _, hl⟩
  have hx := (Ext.refl w).alloc (.cells (rfCells st bd) 42)
  generalize rfCells st bd = C at *
  go_enter Try.func27, Try.ntmps27
  go_wp2_with fail
  generalize w.alloc (.cells C 42) = wa at *
  have hq := hR.lt
  generalize w.heap.size = q at *
  go_loop [3, 9] (fun k i => ∃ m : Nat, m ≤ 64 ∧ i = .int .i64 m ∧ k = .int .i64 (freeL st m).length) (fun _ i => (64 - intOf i).toNat)
  case atStart => exact ⟨0, Nat.zero_le _, rfl, rfl⟩
  case round =>
    obtain ⟨m, hm, rfl, rfl⟩ := hrel
    have hb := freeL_length st m
    by_cases hlt : m < 64
    · have hml : (m : Int) < 64 := by omega
      have hs := Lib.hid (freeL_succ st m)
      have hcell : wa.cell? ⟨q, 1 + m, none⟩ = some (.int .i64 (st.getD (m + 1) 0)) := by rw [Nat.add_comm]; exact hR.cell (m + 1) (by omega)
      by_cases hx0 : st.getD (m + 1) 0 = 0
      · have HX := Lib.hid (show (st.getD (m + 1) 0 == 0) = true by simpa using hx0)
        rw [hx0] at hcell
        clear hx0
        go_wp2_with fail
        go_round
        case rel => exact ⟨m + 1, by omega, by go_num, by rw [hs.out, if_pos HX.out]; simp⟩
        case measure => simp [intOf]; omega
      · have hx' : (st.getD (m + 1) 0 == 0) = false := by simpa using hx0
        have HX := Lib.hid hx'
        generalize st.getD (m + 1) 0 = x at *
        go_wp2_with fail
        go_round
        case rel => exact ⟨m + 1, by omega, by go_num, by rw [hs.out, HX.out]; simp⟩
        case measure => simp [intOf]; omega
    · obtain rfl : m = 64 := by omega
      go_wp2_with fail
      go_ret
      exact ⟨rfl, hx⟩

theorem hs_rf (st : List Int) (bd : Int) (h : st.length = 65) : (Try.prog.info? 42).map (·.size) = some (rfCells st bd).size := by rw [info_rf, rfCells_size h]

/-- The two blocks that a method of the document's names makes. -/
theorem two_blocks (st : List Int) (bd : Int) (w : World) (hl : st.length = 65) : ∃ wa q r, ((w.alloc (.cells (rfCells st bd) 42)).alloc (.cells (rfCells (List.replicate 65 0) 0) 42)) = wa ∧ w.heap.size = q ∧ w.heap.size + 1 = r ∧ RfAt wa q st bd ∧ RfAt wa r (List.replicate 65 0) 0 ∧ Ext w wa ∧ q ≠ r :=
  ⟨_, _, _, rfl, rfl, rfl, ⟨((Ext.refl _).alloc _).heap (heap_alloc_new _ _), hl⟩, ⟨by have := heap_alloc_new (w.alloc (.cells (rfCells st bd) 42)) (.cells (rfCells (List.replicate 65 0) 0) 42); simpa using this, rfl⟩, ((Ext.refl w).alloc _).alloc _, by omega⟩

set_option maxHeartbeats 1000000 in
theorem rbind_any (st : List Int) (bd i : Int) (w : World) (hl : st.length = 65) : Calls Try.prog 25 #[.agg (rfCells st bd), .int .i64 i] w fun e w' =>
    e = .returned (.tuple #[.agg (rfCells (bindR st bd i).2.2.1 (bindR st bd i).2.2.2), .bool (bindR st bd i).1, .int .i64 (bindR st bd i).2.1]) ∧ Ext w w' := by
  have hz := zero_rf
  obtain ⟨wa, q, r, e1, e2, e3, hA, hB, hx, hqr⟩ := two_blocks st bd w hl
  have E1 := Lib.hid e1
  have E2 := Lib.hid e2
  have E3 := Lib.hid e3
  have hq : w.heap.size ≤ q := by omega
  have hr : w.heap.size ≤ r := by omega
  clear e1 e2 e3
  generalize rfCells (List.replicate 65 0) 0 = Z at *
  generalize rfCells st bd = C at *
  by_cases h0 : i = 0
  · subst h0
    have HR := Lib.hid (show bindR st bd 0 = (false, 0, st, 0) by simp [bindR])
    have hA2 := Lib.hid ((hA).setBound 0)
    have hB2 := Lib.hid (hB.chg ((Chg.refl [q] wa).setCell (p := ⟨q, 65, none⟩) (by simp) (.int .i64 0)) (by simpa using fun e => hqr e.symm))
    have hx2 := Lib.hid ((hx.setCell (p := ⟨q, 65, none⟩) hq (.int .i64 0)))
    have c := hA.bound
    have f := hA.free 65
    have hrt := Lib.hid (show ((0 : Int) == 0 || isName 0) = true by rfl)
    go_enter Try.func25, Try.ntmps25
    go_wp2_with (go_at_call 29; fail)
    rw [E1.out, E3.out, E2.out]
    clear hA hB hx
    go_wp2_with (first | (go_at_call 29; refine (right_any _ _).mono ?_; rintro e w1 ⟨rfl, rfl⟩; rw [hrt.out]) | (refine wpList_load_whole rfl 42 _ rfl q rfl (rfCells (st) (0)) 42 hA2.out.1 _ Try.underlying42 rfl (hs_rf _ _ hA2.out.2) ?_) | (refine wpList_store_whole rfl 42 _ _ rfl r (rfCells (st) (0)) rfl rfl _ 42 hB2.out.1 ((rfCells_size hA2.out.2).trans (rfCells_size rfl).symm) (hs_rf _ _ hA2.out.2) rfCells_one ?_; intro w2 hw2 hc2))
    have hload := run_loadVar_whole (P := Try.prog) 42 _ hw2 Try.underlying42 rfl (hs_rf _ _ hA2.out.2)
    rw [HR.out]
    exact bodyPost_ret (results_cell3 rfl _ _ _ _ rfl hload) rfl ⟨rfl, hx2.out.chgTrans hc2 (by simpa using hr)⟩
  · have hi0 : (i == 0) = false := by simpa using h0
    cases hb : isName i with
    | false =>
      have HR := Lib.hid (show bindR st bd i = (false, 2, st, bd) by simp [bindR, hb, h0])
      have hA2 := Lib.hid (hA)
      have hB2 := Lib.hid (hB.chg (Chg.refl [q] wa) (by simpa using fun e => hqr e.symm))
      have hx2 := Lib.hid (hx)
      have hrt := Lib.hid (show (i == 0 || isName i) = false by rw [hi0, hb]; rfl)
      go_enter Try.func25, Try.ntmps25
      go_wp2_with (go_at_call 29; fail)
      rw [E1.out, E3.out, E2.out]
      clear hA hB hx
      go_wp2_with (first | (go_at_call 29; refine (right_any _ _).mono ?_; rintro e w1 ⟨rfl, rfl⟩; rw [hrt.out]) | (refine wpList_load_whole rfl 42 _ rfl q rfl (rfCells (st) (bd)) 42 hA2.out.1 _ Try.underlying42 rfl (hs_rf _ _ hA2.out.2) ?_) | (refine wpList_store_whole rfl 42 _ _ rfl r (rfCells (st) (bd)) rfl rfl _ 42 hB2.out.1 ((rfCells_size hA2.out.2).trans (rfCells_size rfl).symm) (hs_rf _ _ hA2.out.2) rfCells_one ?_; intro w2 hw2 hc2))
      have hload := run_loadVar_whole (P := Try.prog) 42 _ hw2 Try.underlying42 rfl (hs_rf _ _ hA2.out.2)
      rw [HR.out]
      exact bodyPost_ret (results_cell3 rfl _ _ _ _ rfl hload) rfl ⟨rfl, hx2.out.chgTrans hc2 (by simpa using hr)⟩
    | true =>
      have hi : 1 ≤ i ∧ i ≤ 64 := by simpa [isName] using hb
      obtain ⟨m, rfl⟩ := Int.eq_ofNat_of_zero_le (show 0 ≤ i by omega)
      have HR := Lib.hid (show bindR st bd (m : Int) = (st.getD m 0 != 2, 0, st.set m 2, (m : Int)) by unfold bindR; rw [if_neg h0, if_pos hb]; unfold stOf; rw [if_pos hb]; rfl)
      have hm : (m : Int) < 65 := by omega
      have hm2 : m ≠ 65 := by omega
      have hA2 := Lib.hid (((hA).setBound (m : Int)).setState m (by omega) 2)
      have hB2 := Lib.hid (hB.chg (((Chg.refl [q] wa).setCell (p := ⟨q, 65, none⟩) (by simp) (.int .i64 (m : Int))).setCell (p := ⟨q, m, none⟩) (by simp) (.int .i64 2)) (by simpa using fun e => hqr e.symm))
      have hx2 := Lib.hid (((hx.setCell (p := ⟨q, 65, none⟩) hq (.int .i64 (m : Int))).setCell (p := ⟨q, m, none⟩) hq (.int .i64 2)))
      have c := hA.cell m (by omega)
      have c2 := hA.bound
      have f := hA.free 65
      have f2 := hA.free m
      have hrt := Lib.hid (show ((m : Int) == 0 || isName (m : Int)) = true by rw [hb, Bool.or_true])
      go_enter Try.func25, Try.ntmps25
      go_wp2_with (go_at_call 29; fail)
      rw [E1.out, E3.out, E2.out]
      clear hA hB hx
      go_wp2_with (first | (go_at_call 29; refine (right_any _ _).mono ?_; rintro e w1 ⟨rfl, rfl⟩; rw [hrt.out]) | (refine wpList_load_whole rfl 42 _ rfl q rfl (rfCells (st.set m 2) ((m : Int))) 42 hA2.out.1 _ Try.underlying42 rfl (hs_rf _ _ hA2.out.2) ?_) | (refine wpList_store_whole rfl 42 _ _ rfl r (rfCells (st.set m 2) ((m : Int))) rfl rfl _ 42 hB2.out.1 ((rfCells_size hA2.out.2).trans (rfCells_size rfl).symm) (hs_rf _ _ hA2.out.2) rfCells_one ?_; intro w2 hw2 hc2))
      have hload := run_loadVar_whole (P := Try.prog) 42 _ hw2 Try.underlying42 rfl (hs_rf _ _ hA2.out.2)
      rw [HR.out]
      exact bodyPost_ret (results_cell3 rfl _ _ _ _ rfl hload) rfl ⟨rfl, hx2.out.chgTrans hc2 (by simpa using hr)⟩

set_option maxHeartbeats 1000000 in
theorem rdel_any (st : List Int) (bd i : Int) (w : World) (hl : st.length = 65) : Calls Try.prog 26 #[.agg (rfCells st bd), .int .i64 i] w fun e w' =>
    e = .returned (.tuple #[.agg (rfCells (delR st bd i).2.2.1 (delR st bd i).2.2.2), .bool (delR st bd i).1, .int .i64 (delR st bd i).2.1]) ∧ Ext w w' := by
  have hz := zero_rf
  obtain ⟨wa, q, r, e1, e2, e3, hA, hB, hx, hqr⟩ := two_blocks st bd w hl
  have E1 := Lib.hid e1
  have E2 := Lib.hid e2
  have E3 := Lib.hid e3
  have hq : w.heap.size ≤ q := by omega
  have hr : w.heap.size ≤ r := by omega
  clear e1 e2 e3
  generalize rfCells (List.replicate 65 0) 0 = Z at *
  generalize rfCells st bd = C at *
  by_cases h0 : i = 0
  · subst h0
    have HR := Lib.hid (show delR st bd 0 = (false, 0, st, bd) by simp [delR])
    have hA2 := Lib.hid (hA)
    have hB2 := Lib.hid (hB.chg (Chg.refl [q] wa) (by simpa using fun e => hqr e.symm))
    have hx2 := Lib.hid (hx)
    have hrt := Lib.hid (show ((0 : Int) == 0 || isName 0) = true by rfl)
    go_enter Try.func26, Try.ntmps26
    go_wp2_with (go_at_call 29; fail)
    rw [E1.out, E3.out, E2.out]
    clear hA hB hx
    go_wp2_with (first | (go_at_call 29; refine (right_any _ _).mono ?_; rintro e w1 ⟨rfl, rfl⟩; rw [hrt.out]) | (refine wpList_load_whole rfl 42 _ rfl q rfl (rfCells (st) (bd)) 42 hA2.out.1 _ Try.underlying42 rfl (hs_rf _ _ hA2.out.2) ?_) | (refine wpList_store_whole rfl 42 _ _ rfl r (rfCells (st) (bd)) rfl rfl _ 42 hB2.out.1 ((rfCells_size hA2.out.2).trans (rfCells_size rfl).symm) (hs_rf _ _ hA2.out.2) rfCells_one ?_; intro w2 hw2 hc2))
    have hload := run_loadVar_whole (P := Try.prog) 42 _ hw2 Try.underlying42 rfl (hs_rf _ _ hA2.out.2)
    rw [HR.out]
    exact bodyPost_ret (results_cell3 rfl _ _ _ _ rfl hload) rfl ⟨rfl, hx2.out.chgTrans hc2 (by simpa using hr)⟩
  · have hi0 : (i == 0) = false := by simpa using h0
    cases hb : isName i with
    | false =>
      have HR := Lib.hid (show delR st bd i = (false, 2, st, bd) by simp [delR, hb, h0])
      have hA2 := Lib.hid (hA)
      have hB2 := Lib.hid (hB.chg (Chg.refl [q] wa) (by simpa using fun e => hqr e.symm))
      have hx2 := Lib.hid (hx)
      have hrt := Lib.hid (show (i == 0 || isName i) = false by rw [hi0, hb]; rfl)
      go_enter Try.func26, Try.ntmps26
      go_wp2_with (go_at_call 29; fail)
      rw [E1.out, E3.out, E2.out]
      clear hA hB hx
      go_wp2_with (first | (go_at_call 29; refine (right_any _ _).mono ?_; rintro e w1 ⟨rfl, rfl⟩; rw [hrt.out]) | (refine wpList_load_whole rfl 42 _ rfl q rfl (rfCells (st) (bd)) 42 hA2.out.1 _ Try.underlying42 rfl (hs_rf _ _ hA2.out.2) ?_) | (refine wpList_store_whole rfl 42 _ _ rfl r (rfCells (st) (bd)) rfl rfl _ 42 hB2.out.1 ((rfCells_size hA2.out.2).trans (rfCells_size rfl).symm) (hs_rf _ _ hA2.out.2) rfCells_one ?_; intro w2 hw2 hc2))
      have hload := run_loadVar_whole (P := Try.prog) 42 _ hw2 Try.underlying42 rfl (hs_rf _ _ hA2.out.2)
      rw [HR.out]
      exact bodyPost_ret (results_cell3 rfl _ _ _ _ rfl hload) rfl ⟨rfl, hx2.out.chgTrans hc2 (by simpa using hr)⟩
    | true =>
      have hi : 1 ≤ i ∧ i ≤ 64 := by simpa [isName] using hb
      obtain ⟨m, rfl⟩ := Int.eq_ofNat_of_zero_le (show 0 ≤ i by omega)
      have hm : (m : Int) < 65 := by omega
      have hm2 : m ≠ 65 := by omega
      by_cases hbd : bd = (m : Int)
      · have HR := Lib.hid (show delR st bd (m : Int) = (st.getD m 0 == 2, 0, st.set m 0, 0) by unfold delR; rw [if_neg h0, if_pos hb, if_pos hbd]; unfold stOf; rw [if_pos hb]; rfl)
        have hbd' : (bd == (m : Int)) = true := by simpa using hbd
        have hA2 := Lib.hid (((hA).setState m (by omega) 0).setBound 0)
        have hB2 := Lib.hid (hB.chg (((Chg.refl [q] wa).setCell (p := ⟨q, m, none⟩) (by simp) (.int .i64 0)).setCell (p := ⟨q, 65, none⟩) (by simp) (.int .i64 0)) (by simpa using fun e => hqr e.symm))
        have hx2 := Lib.hid (((hx.setCell (p := ⟨q, m, none⟩) hq (.int .i64 0)).setCell (p := ⟨q, 65, none⟩) hq (.int .i64 0)))
        have c := hA.cell m (by omega)
        have c2 := hA.bound
        have f := hA.free 65
        have f2 := hA.free m
        have hrt := Lib.hid (show ((m : Int) == 0 || isName (m : Int)) = true by rw [hb, Bool.or_true])
        go_enter Try.func26, Try.ntmps26
        go_wp2_with (go_at_call 29; fail)
        rw [E1.out, E3.out, E2.out]
        clear hA hB hx
        go_wp2_with (first | (go_at_call 29; refine (right_any _ _).mono ?_; rintro e w1 ⟨rfl, rfl⟩; rw [hrt.out]) | (refine wpList_load_whole rfl 42 _ rfl q rfl (rfCells (st.set m 0) (0)) 42 hA2.out.1 _ Try.underlying42 rfl (hs_rf _ _ hA2.out.2) ?_) | (refine wpList_store_whole rfl 42 _ _ rfl r (rfCells (st.set m 0) (0)) rfl rfl _ 42 hB2.out.1 ((rfCells_size hA2.out.2).trans (rfCells_size rfl).symm) (hs_rf _ _ hA2.out.2) rfCells_one ?_; intro w2 hw2 hc2))
        have hload := run_loadVar_whole (P := Try.prog) 42 _ hw2 Try.underlying42 rfl (hs_rf _ _ hA2.out.2)
        rw [HR.out]
        exact bodyPost_ret (results_cell3 rfl _ _ _ _ rfl hload) rfl ⟨rfl, hx2.out.chgTrans hc2 (by simpa using hr)⟩
      · have HR := Lib.hid (show delR st bd (m : Int) = (st.getD m 0 == 2, 0, st.set m 0, bd) by unfold delR; rw [if_neg h0, if_pos hb, if_neg hbd]; unfold stOf; rw [if_pos hb]; rfl)
        have hbd' : (bd == (m : Int)) = false := by simpa using hbd
        have hA2 := Lib.hid ((hA).setState m (by omega) 0)
        have hB2 := Lib.hid (hB.chg ((Chg.refl [q] wa).setCell (p := ⟨q, m, none⟩) (by simp) (.int .i64 0)) (by simpa using fun e => hqr e.symm))
        have hx2 := Lib.hid ((hx.setCell (p := ⟨q, m, none⟩) hq (.int .i64 0)))
        have c := hA.cell m (by omega)
        have c2 := hA.bound
        have f := hA.free 65
        have f2 := hA.free m
        have hrt := Lib.hid (show ((m : Int) == 0 || isName (m : Int)) = true by rw [hb, Bool.or_true])
        go_enter Try.func26, Try.ntmps26
        go_wp2_with (go_at_call 29; fail)
        rw [E1.out, E3.out, E2.out]
        clear hA hB hx
        go_wp2_with (first | (go_at_call 29; refine (right_any _ _).mono ?_; rintro e w1 ⟨rfl, rfl⟩; rw [hrt.out]) | (refine wpList_load_whole rfl 42 _ rfl q rfl (rfCells (st.set m 0) (bd)) 42 hA2.out.1 _ Try.underlying42 rfl (hs_rf _ _ hA2.out.2) ?_) | (refine wpList_store_whole rfl 42 _ _ rfl r (rfCells (st.set m 0) (bd)) rfl rfl _ 42 hB2.out.1 ((rfCells_size hA2.out.2).trans (rfCells_size rfl).symm) (hs_rf _ _ hA2.out.2) rfCells_one ?_; intro w2 hw2 hc2))
        have hload := run_loadVar_whole (P := Try.prog) 42 _ hw2 Try.underlying42 rfl (hs_rf _ _ hA2.out.2)
        rw [HR.out]
        exact bodyPost_ret (results_cell3 rfl _ _ _ _ rfl hload) rfl ⟨rfl, hx2.out.chgTrans hc2 (by simpa using hr)⟩
end Go.Proofs.Ytdomijfkpbganaa
