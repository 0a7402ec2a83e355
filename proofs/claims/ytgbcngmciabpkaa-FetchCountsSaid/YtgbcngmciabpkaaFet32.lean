/- The walk of FetchCounts, whole. Conditions: each theorem's own premises. -/
import Derived.Test.YtgbcngmciabpkaaFet28
import Derived.Test.YtgbcngmciabpkaaFet29
import Derived.Test.YtgbcngmciabpkaaFet30
import Derived.Test.YtgbcngmciabpkaaFet31
namespace Go.Proofs.Ytgbcngmciabpkaa
open Go.RowKit Go.ChangeShapes
set_option linter.unusedVariables false

set_option maxRecDepth 100000 in
set_option maxHeartbeats 4000000 in
theorem cnt_bad (m : Int) (hm : m < 0 ∨ 6 < m) (n : Int) (w : World) : Calls Try.prog 7 #[.int .i64 m, .int .i64 n] w fun e w' => e = .returned (.bool true) ∧ Ext w w' := by
  obtain ⟨i0, hi, hz0, hz1, hz2⟩ := info_parts info_int
  obtain ⟨M, hM, hM0⟩ : ∃ M, (if n < 0 then 0 else n) = M ∧ 0 ≤ M := ⟨_, rfl, by split <;> omega⟩
  obtain ⟨N, hN⟩ : ∃ N : Nat, M % 257 = (N : Int) := ⟨(M % 257).toNat, by omega⟩
  have hN2 : N ≤ 256 := by omega
  have hN2i : (N : Int) ≤ 256 := by omega
  go_enter Try.func7, Try.ntmps7
  go_upto_region 4 with (go_at_call 10; refine (wakes_any _).mono ?_; rintro _ w1 ⟨rfl, hx1⟩)
  rw [hN]
  clear hM
  go_wp2_with ((at_make; refine wpList_make_full _ rfl _ _ 43 rfl w1.heap.size 3 i0 (.int .i64 0) 1 Try.underlying43 hi hz0 hz1 _ _ _ _ N rfl rfl rfl rfl ?b2 ?b3 (Nat.le_refl _) ?_))
  case b2 => rw [hz2]; omega
  case b3 => unfold maxLen; omega
  intro w2 hown hgrow
  have hx2 : Ext w1 w2 := (Ext.refl w1).grown hgrow (by intro k hk; cases hk)
  have HX2 := Lib.hid (hx1.trans hx2)
  have hszz : w.heap.size ≤ w1.heap.size := hx1.size
  clear hgrow hN hx1 hx2
  obtain ⟨cur0, hcur0, hsz0⟩ : ∃ cur : Array Value, w2.heap[w1.heap.size]? = some (.cells cur 3 (0, 0)) ∧ cur.size = N := by
    rcases hown.2 with ⟨h, _⟩ | ⟨g, cap, cur, he, _, hh, _, _, hs, _⟩
    · cases h
    · simp at he
      obtain ⟨rfl, rfl⟩ := he
      exact ⟨cur, hh, by simpa using hs⟩
  clear hown
  generalize hg : w1.heap.size = g at *
  have HCUR := Lib.hid hcur0
  clear hcur0 hg
  go_wp2_with fail
  go_loopw [25] (fun i wr => ∃ (k : Nat) (cur : Array Value), k ≤ N ∧ i = .int .i64 k ∧ wr.heap[g]? = some (.cells cur 3 (0, 0)) ∧ cur.size = N ∧ (∀ j, j < k → cur[j]? = some (.int .i64 j)) ∧ Ext w wr) (fun i _ => N - (intOf i).toNat)
  case atStart => exact ⟨0, cur0, Nat.zero_le _, rfl, HCUR.out, hsz0, fun j hj => absurd hj (Nat.not_lt_zero _), HX2.out⟩
  case round =>
    rename World => wr
    obtain ⟨k, cur, hk, rfl, hcur, hsz, hall, hxr⟩ := hrel
    by_cases hlt : k < N
    · have hc : wr.cell? ⟨g, k, none⟩ = some (cur.getD k undef) := by
        have : k < cur.size := by omega
        simp [World.cell?, hcur, Array.getD, this]
      have hf : wr.frozen? ⟨g, k, none⟩ = false := by simp [World.frozen?, hcur]
      have hki : (k : Int) < (N : Int) := by omega
      have hgl := heap_lt hcur
      have hset : (wr.setCell ⟨g, k, none⟩ (.int .i64 k)).heap[g]? = some (.cells (cur.set! k (.int .i64 k)) 3 (0, 0)) := heap_set_arr hcur
      have HSET := Lib.hid hset
      have HALL := Lib.hid hall
      have HXS := Lib.hid (hxr.setCell (p := ⟨g, k, none⟩) (by exact hszz) (.int .i64 k))
      have HSZ := Lib.hid hsz
      generalize cur.getD k undef = u at hc
      clear hcur hsz hall hxr hset
      go_wp2_with fail
      go_roundw
      case rel =>
        refine ⟨k + 1, _, by omega, by go_num, HSET.out, by simp [HSZ.out], fun j hj => ?_, HXS.out⟩
        rcases Nat.lt_or_ge j k with h | h
        · rw [← HALL.out j h]; simp [Array.getElem?_setIfInBounds]; omega
        · obtain rfl : j = k := by omega
          simp [HSZ.out, hlt]
      case measure => simp [intOf]; omega
    · obtain rfl : k = N := by omega
      have HIN : Hid (Ints .i64 wr (.slice (some ⟨g, 0, none⟩) k k) (numL k)) := Lib.hid (by
        have hl := numL_len k
        refine ⟨⟨by rw [List.length_map, numL_len]; omega, _, k, by rw [numL_len], by omega, by unfold maxLen; omega, (fun h => by cases h), fun _ => ⟨g, 0, rfl, heap_lt hcur, fun j u hu => ?_⟩⟩, fun z hz => ?_⟩
        · have hj : j < k := by have := (List.getElem?_eq_some_iff.1 hu).1; rw [List.length_map, numL_len] at this; exact this
          rw [Nat.zero_add]
          have h1 := hall j hj
          have h2 : (numL k)[j]? = some (j : Int) := by unfold numL; rw [List.getElem?_map, List.getElem?_range hj]; rfl
          rw [List.getElem?_map, h2] at hu
          have h3 : u = .int .i64 j := by simpa using hu.symm
          rw [h3]
          simp [World.cell?, hcur, h1]
        · unfold numL at hz
          obtain ⟨j, hj, rfl⟩ := List.mem_map.1 hz
          rw [List.mem_range] at hj
          exact WalkArith.wf_i64 (by omega))
      have HXR := Lib.hid hxr
      clear hcur hsz hall hxr hlt hsz0 HX2 HCUR
      have HM := Lib.hid hm
      rcases hm with hm | hm
      · go_wp2_with (go_at_call 19; refine (fprims_bad m HM.out _ _).mono ?_; rintro _ w5 ⟨rfl, hx5⟩; have HX5 := Lib.hid (HXR.out.trans hx5); clear hx5)
        go_ret
        exact ⟨rfl, HX5.out⟩
      · have h0 : ¬ m < 0 := by omega
        go_wp2_with (go_at_call 19; refine (fprims_bad m HM.out _ _).mono ?_; rintro _ w5 ⟨rfl, hx5⟩; have HX5 := Lib.hid (HXR.out.trans hx5); clear hx5)
        go_ret
        exact ⟨rfl, HX5.out⟩
theorem counts_arg (W : World) (v0 v1 : Value) (h0 : ArgIs Try.prog W 3 v0) (h1 : ArgIs Try.prog W 3 v1) : Calls Try.prog 7 #[v0, v1] W fun e w' => e = .returned (.bool true) ∧ Ext W w' := by
  obtain ⟨m, rfl, _⟩ := h0.int Try.underlying3
  obtain ⟨n, rfl, _⟩ := h1.int Try.underlying3
  by_cases hm : m < 0 ∨ 6 < m
  · exact cnt_bad m hm n W
  · rcases modes (show 0 ≤ m by omega) (show m ≤ 6 by omega) with rfl | rfl | rfl | rfl | rfl | rfl | rfl
    · exact cnt_walk0 n W
    · exact cnt_walk1 n W
    · exact cnt_walk2 n W
    · exact cnt_walk3 n W
    · exact cnt_walk4 n W
    · exact cnt_walk5 n W
    · exact cnt_walk6 n W
end Go.Proofs.Ytgbcngmciabpkaa
