/- The walk of FetchCounts, on. Conditions: each theorem's own premises. -/
import Derived.Test.YtgbcngmciabpkaaFet27
namespace Go.Proofs.Ytgbcngmciabpkaa
open Go.RowKit Go.ChangeShapes
set_option linter.unusedVariables false
attribute [local go_sem ↓] Ix3 Ld_Pr St_Pr
attribute [local go_sem] ix7_0 ix7_1 ix7_2 ix7_3 ix7_4 ix7_5 ix7_6
set_option maxRecDepth 100000 in
set_option maxHeartbeats 4000000 in
theorem cnt_walk2 (n : Int) (w : World) : Calls Try.prog 7 #[.int .i64 2, .int .i64 n] w fun e w' => e = .returned (.bool true) ∧ Ext w w' := by
  obtain ⟨i0, hi, hz0, hz1, hz2⟩ := info_parts info_int
  obtain ⟨M, hM, hM0⟩ : ∃ M, (if n < 0 then 0 else n) = M ∧ 0 ≤ M := ⟨_, rfl, by split <;> omega⟩
  obtain ⟨N, hN⟩ : ∃ N : Nat, M % 257 = (N : Int) := ⟨(M % 257).toNat, by omega⟩
  have hN2 : N ≤ 256 := by omega
  have hN2i : (N : Int) ≤ 256 := by omega
  go_enter Try.func7, Try.ntmps7
  go_upto_region 4 with (go_at_call 10; refine (wakes_any _).mono ?_; rintro _ w1 ⟨rfl, hx1⟩)
  rw [hN]
  clear hM
  go_wp2_with ((at_make; refine wpList_make_full _ rfl _ _ 43 rfl w1.heap.size 3 i0 (.int .i64 0) 1 Try.underlying43 hi hz0 hz1 _ _ _ _ N rfl rfl rfl rfl ?b2 ?b3 (Nat.le_refl _) ?_))
  case b2 => rw [hz2]; omega
  case b3 => unfold maxLen; omega
  intro w2 hown hgrow
  have hx2 : Ext w1 w2 := (Ext.refl w1).grown hgrow (by intro k hk; cases hk)
  have HX2 := Lib.hid (hx1.trans hx2)
  have hszz : w.heap.size ≤ w1.heap.size := hx1.size
  clear hgrow hN hx1 hx2
  obtain ⟨cur0, hcur0, hsz0⟩ : ∃ cur : Array Value, w2.heap[w1.heap.size]? = some (.cells cur 3 (0, 0)) ∧ cur.size = N := by
    rcases hown.2 with ⟨h, _⟩ | ⟨g, cap, cur, he, _, hh, _, _, hs, _⟩
    · cases h
    · simp at he
      obtain ⟨rfl, rfl⟩ := he
      exact ⟨cur, hh, by simpa using hs⟩
  clear hown
  generalize hg : w1.heap.size = g at *
  have HCUR := Lib.hid hcur0
  clear hcur0 hg
  go_wp2_with fail
  go_loopw [25] (fun i wr => ∃ (k : Nat) (cur : Array Value), k ≤ N ∧ i = .int .i64 k ∧ wr.heap[g]? = some (.cells cur 3 (0, 0)) ∧ cur.size = N ∧ (∀ j, j < k → cur[j]? = some (.int .i64 j)) ∧ Ext w wr) (fun i _ => N - (intOf i).toNat)
  case atStart => exact ⟨0, cur0, Nat.zero_le _, rfl, HCUR.out, hsz0, fun j hj => absurd hj (Nat.not_lt_zero _), HX2.out⟩
  case round =>
    rename World => wr
    obtain ⟨k, cur, hk, rfl, hcur, hsz, hall, hxr⟩ := hrel
    by_cases hlt : k < N
    · have hc : wr.cell? ⟨g, k, none⟩ = some (cur.getD k undef) := by
        have : k < cur.size := by omega
        simp [World.cell?, hcur, Array.getD, this]
      have hf : wr.frozen? ⟨g, k, none⟩ = false := by simp [World.frozen?, hcur]
      have hki : (k : Int) < (N : Int) := by omega
      have hgl := heap_lt hcur
      have hset : (wr.setCell ⟨g, k, none⟩ (.int .i64 k)).heap[g]? = some (.cells (cur.set! k (.int .i64 k)) 3 (0, 0)) := heap_set_arr hcur
      have HSET := Lib.hid hset
      have HALL := Lib.hid hall
      have HXS := Lib.hid (hxr.setCell (p := ⟨g, k, none⟩) (by exact hszz) (.int .i64 k))
      have HSZ := Lib.hid hsz
      generalize cur.getD k undef = u at hc
      clear hcur hsz hall hxr hset
      go_wp2_with fail
      go_roundw
      case rel =>
        refine ⟨k + 1, _, by omega, by go_num, HSET.out, by simp [HSZ.out], fun j hj => ?_, HXS.out⟩
        rcases Nat.lt_or_ge j k with h | h
        · rw [← HALL.out j h]; simp [Array.getElem?_setIfInBounds]; omega
        · obtain rfl : j = k := by omega
          simp [HSZ.out, hlt]
      case measure => simp [intOf]; omega
    · obtain rfl : k = N := by omega
      have HIN : Hid (Ints .i64 wr (.slice (some ⟨g, 0, none⟩) k k) (numL k)) := Lib.hid (by
        have hl := numL_len k
        refine ⟨⟨by rw [List.length_map, numL_len]; omega, _, k, by rw [numL_len], by omega, by unfold maxLen; omega, (fun h => by cases h), fun _ => ⟨g, 0, rfl, heap_lt hcur, fun j u hu => ?_⟩⟩, fun z hz => ?_⟩
        · have hj : j < k := by have := (List.getElem?_eq_some_iff.1 hu).1; rw [List.length_map, numL_len] at this; exact this
          rw [Nat.zero_add]
          have h1 := hall j hj
          have h2 : (numL k)[j]? = some (j : Int) := by unfold numL; rw [List.getElem?_map, List.getElem?_range hj]; rfl
          rw [List.getElem?_map, h2] at hu
          have h3 : u = .int .i64 j := by simpa using hu.symm
          rw [h3]
          simp [World.cell?, hcur, h1]
        · unfold numL at hz
          obtain ⟨j, hj, rfl⟩ := List.mem_map.1 hz
          rw [List.mem_range] at hj
          exact WalkArith.wf_i64 (by omega))
      have HXR := Lib.hid hxr
      clear hcur hsz hall hxr hlt hsz0 HX2 HCUR
      have hP := (len_want k).2.2.1
      obtain ⟨P, hPP⟩ : ∃ P, pmLen 2 (numL k) = P := ⟨_, rfl⟩
      have HPP := Lib.hid hPP
      rw [hPP] at hP
      have hPl := pmLen_le 2 (numL k)
      rw [numL_len, hPP] at hPl
      have HCP : Hid (∀ w, Ints .i64 w (.slice (some ⟨g, 0, none⟩) k k) (numL k) → Calls Try.prog 19 #[.int .i64 2, .slice (some ⟨g, 0, none⟩) k k] w fun e w' => ∃ a cap, e = .returned (.tuple #[.slice a P cap, .int .i64 0]) ∧ SlC w' (.slice a P cap) 4 P (pmAll 2 (numL k)) ∧ Ext w w') := Lib.hid (fun w h => by
        have := fprims_any 2 (by decide) (by decide) _ (numL k) w h (by rw [numL_len]; omega)
        rw [hPP] at this
        exact this)
      clear hPP
      have HPE := Lib.hid hP
      clear hP hM0
      obtain ⟨K1, hK1, hK1'⟩ : ∃ K1 : Int, (if (k : Int) - 1 < 0 then 0 else (k : Int) - 1) = K1 ∧ K1 = ((k - 1 : Nat) : Int) := ⟨_, rfl, by split <;> omega⟩
      obtain ⟨K2, hK2, hK2'⟩ : ∃ K2 : Int, (if (k : Int) - 2 < 0 then 0 else (k : Int) - 2) = K2 ∧ K2 = ((k - 2 : Nat) : Int) := ⟨_, rfl, by split <;> omega⟩
      obtain ⟨X, hX⟩ : ∃ X : Int, (if 2 ≤ k then (k : Int) else 0) = X := ⟨_, rfl⟩
      have HK1 := Lib.hid hK1'
      have HK2 := Lib.hid hK2'
      have HXE := Lib.hid hX
      have v1 : IntKind.i64.wrap ((k : Int) - 1) = (k : Int) - 1 := IntWalk.i64_in _ ⟨by omega, by omega⟩
      have v2 : IntKind.i64.wrap ((k : Int) - 2) = (k : Int) - 2 := IntWalk.i64_in _ ⟨by omega, by omega⟩
      clear hK1' hK2' hX
      go_upto_if 53 with (go_at_call 19; refine (HCP.out _ HIN.out).mono ?_; rintro _ w5 ⟨a5, c5, rfl, hs5, hx5⟩; have HS5 := Lib.hid hs5; have HX5 := Lib.hid (HXR.out.trans hx5); clear hs5 hx5)
      go_cut [9] (fun x wc => x = .int .i64 X ∧ w5 = wc)
      case first =>
        by_cases h2 : 2 ≤ k
        · have h2i : (2 : Int) ≤ (k : Int) := by omega
          have HE := Lib.hid (show X = (k : Int) by rw [← HXE.out, if_pos h2])
          clear h2
          go_wp2_with fail
          go_meet
          exact ⟨by rw [HE.out], rfl⟩
        · have h2i : ¬ (2 : Int) ≤ (k : Int) := by omega
          have HE := Lib.hid (show X = 0 by rw [← HXE.out, if_neg h2])
          clear h2
          go_wp2_with fail
          go_meet
          exact ⟨by rw [HE.out], rfl⟩
      case rest =>
        obtain ⟨rfl, rfl⟩ := hcut
        go_wp2_with fail
        go_loopw [78] (fun i wq => ∃ q : Nat, q ≤ P ∧ i = .int .i64 q ∧ Ext w5 wq) (fun i _ => P - (intOf i).toNat)
        case atStart => exact ⟨0, Nat.zero_le _, rfl, Ext.refl _⟩
        case round =>
          rename World => wq
          obtain ⟨q, hq, rfl, hxq⟩ := hrel
          by_cases hlt : q < P
          · obtain ⟨a, b, c, hp, ha, hb, hc⟩ := pm_ok (m := 2) (by decide) (by decide) (show q < pmLen 2 (numL _) by rw [HPP.out]; exact hlt)
            have hsl := HS5.out.ext hxq
            obtain ⟨b4, off4, rfl, hb4, _⟩ := hsl.pos (by omega)
            have q0 := prim_load (p0 := 2) hsl HPP.out.symm q hlt hp
            have hqi : (q : Int) < (P : Int) := by omega
            obtain ⟨w6, hst6, h6, hx6⟩ := newP4 wq 2 a b c
            have h6l := prim_load4 h6
            have e0 : w6.cell? ⟨wq.heap.size, 0, none⟩ = some (.int .i64 2) := cell_of_heap h6 rfl
            have e1 : w6.cell? ⟨wq.heap.size, 1, none⟩ = some (.int .i64 a) := cell_of_heap h6 rfl
            have e2 : w6.cell? ⟨wq.heap.size, 2, none⟩ = some (.int .i64 b) := cell_of_heap h6 rfl
            have e3 : w6.cell? ⟨wq.heap.size, 3, none⟩ = some (.int .i64 c) := cell_of_heap h6 rfl
            have n6 := heap_lt h6
            have H6 := Lib.hid h6
            have HX6 := Lib.hid (hxq.trans hx6)
            have HP := Lib.hid hp
            have HC := Lib.hid (comp_at ha hb hc)
            clear ha hb hc hsl h6 hxq hx6 hp
            go_wp2_with fail
            go_loop [89] (fun i => ∃ j : Nat, j ≤ 3 ∧ i = .int .i64 j) (fun i => 3 - (intOf i).toNat)
            case atStart => exact ⟨0, by omega, rfl⟩
            case round =>
              obtain ⟨j, hj, rfl⟩ := hrel
              by_cases hlt3 : j < 3
              · have hix := ix3 a b c j hlt3 w6
                have hcc := HC.out j hlt3
                have hji : (j : Int) < 3 := by omega
                generalize [a, b, c].getD j 0 = v at *
                by_cases hjs : j < 2
                · obtain ⟨hv1, hv2⟩ := hcc.1 hjs
                  have hjsi : (j : Int) < 2 := by omega
                  clear hcc
                  go_wp2_with fail
                  go_round
                  case rel => exact ⟨j + 1, by omega, by go_num⟩
                  case measure => simp [intOf]; omega
                · have hv1 := hcc.2 (by show 2 ≤ j; omega)
                  subst hv1
                  have hjsi : ¬ (j : Int) < 2 := by omega
                  clear hcc
                  go_wp2_with fail
                  go_round
                  case rel => exact ⟨j + 1, by omega, by go_num⟩
                  case measure => simp [intOf]; omega
              · obtain rfl : j = 3 := by omega
                clear hlt3
                rcases Nat.eq_zero_or_pos q with hq0 | hq0
                · have hq0i : decide ((0 : Int) < (q : Int)) = false := decide_eq_false (by omega)
                  go_upto_region 29 with fail
                  go_quiet (fail)
                  all_goals
                    go_wp2_with fail
                    go_roundw
                    case rel => exact ⟨q + 1, by omega, by go_num, by first | exact HX6.out | exact HX6.out.drew | exact HX6.out.drewN _⟩
                    case measure => simp [intOf]; omega
                · have hq0i : decide ((0 : Int) < (q : Int)) = true := decide_eq_true (by omega)
                  have hq0j : (0 : Int) < (q : Int) := by omega
                  go_upto_region 29 with fail
                  go_quiet (fail)
                  all_goals
                    go_wp2_with fail
                    go_roundw
                    case rel => exact ⟨q + 1, by omega, by go_num, by first | exact HX6.out | exact HX6.out.drew | exact HX6.out.drewN _⟩
                    case measure => simp [intOf]; omega
          · obtain rfl : q = P := by omega
            have HXQ := Lib.hid (HX5.out.trans hxq)
            clear hlt hxq
            go_wp2_with fail
            go_ret
            have hP := HPE.out
            have hq1 := HK1.out
            have hq2 := HK2.out
            have hq3 := HXE.out
            refine ⟨congrArg (fun b => Ending.returned (Value.bool b)) (?_ : ((q : Int) == X) = true), HXQ.out⟩
            rw [beq_iff_eq]
            first | omega | (split at hP <;> simp_all)
set_option maxRecDepth 100000 in
set_option maxHeartbeats 4000000 in
theorem cnt_walk3 (n : Int) (w : World) : Calls Try.prog 7 #[.int .i64 3, .int .i64 n] w fun e w' => e = .returned (.bool true) ∧ Ext w w' := by
  obtain ⟨i0, hi, hz0, hz1, hz2⟩ := info_parts info_int
  obtain ⟨M, hM, hM0⟩ : ∃ M, (if n < 0 then 0 else n) = M ∧ 0 ≤ M := ⟨_, rfl, by split <;> omega⟩
  obtain ⟨N, hN⟩ : ∃ N : Nat, M % 257 = (N : Int) := ⟨(M % 257).toNat, by omega⟩
  have hN2 : N ≤ 256 := by omega
  have hN2i : (N : Int) ≤ 256 := by omega
  go_enter Try.func7, Try.ntmps7
  go_upto_region 4 with (go_at_call 10; refine (wakes_any _).mono ?_; rintro _ w1 ⟨rfl, hx1⟩)
  rw [hN]
  clear hM
  go_wp2_with ((at_make; refine wpList_make_full _ rfl _ _ 43 rfl w1.heap.size 3 i0 (.int .i64 0) 1 Try.underlying43 hi hz0 hz1 _ _ _ _ N rfl rfl rfl rfl ?b2 ?b3 (Nat.le_refl _) ?_))
  case b2 => rw [hz2]; omega
  case b3 => unfold maxLen; omega
  intro w2 hown hgrow
  have hx2 : Ext w1 w2 := (Ext.refl w1).grown hgrow (by intro k hk; cases hk)
  have HX2 := Lib.hid (hx1.trans hx2)
  have hszz : w.heap.size ≤ w1.heap.size := hx1.size
  clear hgrow hN hx1 hx2
  obtain ⟨cur0, hcur0, hsz0⟩ : ∃ cur : Array Value, w2.heap[w1.heap.size]? = some (.cells cur 3 (0, 0)) ∧ cur.size = N := by
    rcases hown.2 with ⟨h, _⟩ | ⟨g, cap, cur, he, _, hh, _, _, hs, _⟩
    · cases h
    · simp at he
      obtain ⟨rfl, rfl⟩ := he
      exact ⟨cur, hh, by simpa using hs⟩
  clear hown
  generalize hg : w1.heap.size = g at *
  have HCUR := Lib.hid hcur0
  clear hcur0 hg
  go_wp2_with fail
  go_loopw [25] (fun i wr => ∃ (k : Nat) (cur : Array Value), k ≤ N ∧ i = .int .i64 k ∧ wr.heap[g]? = some (.cells cur 3 (0, 0)) ∧ cur.size = N ∧ (∀ j, j < k → cur[j]? = some (.int .i64 j)) ∧ Ext w wr) (fun i _ => N - (intOf i).toNat)
  case atStart => exact ⟨0, cur0, Nat.zero_le _, rfl, HCUR.out, hsz0, fun j hj => absurd hj (Nat.not_lt_zero _), HX2.out⟩
  case round =>
    rename World => wr
    obtain ⟨k, cur, hk, rfl, hcur, hsz, hall, hxr⟩ := hrel
    by_cases hlt : k < N
    · have hc : wr.cell? ⟨g, k, none⟩ = some (cur.getD k undef) := by
        have : k < cur.size := by omega
        simp [World.cell?, hcur, Array.getD, this]
      have hf : wr.frozen? ⟨g, k, none⟩ = false := by simp [World.frozen?, hcur]
      have hki : (k : Int) < (N : Int) := by omega
      have hgl := heap_lt hcur
      have hset : (wr.setCell ⟨g, k, none⟩ (.int .i64 k)).heap[g]? = some (.cells (cur.set! k (.int .i64 k)) 3 (0, 0)) := heap_set_arr hcur
      have HSET := Lib.hid hset
      have HALL := Lib.hid hall
      have HXS := Lib.hid (hxr.setCell (p := ⟨g, k, none⟩) (by exact hszz) (.int .i64 k))
      have HSZ := Lib.hid hsz
      generalize cur.getD k undef = u at hc
      clear hcur hsz hall hxr hset
      go_wp2_with fail
      go_roundw
      case rel =>
        refine ⟨k + 1, _, by omega, by go_num, HSET.out, by simp [HSZ.out], fun j hj => ?_, HXS.out⟩
        rcases Nat.lt_or_ge j k with h | h
        · rw [← HALL.out j h]; simp [Array.getElem?_setIfInBounds]; omega
        · obtain rfl : j = k := by omega
          simp [HSZ.out, hlt]
      case measure => simp [intOf]; omega
    · obtain rfl : k = N := by omega
      have HIN : Hid (Ints .i64 wr (.slice (some ⟨g, 0, none⟩) k k) (numL k)) := Lib.hid (by
        have hl := numL_len k
        refine ⟨⟨by rw [List.length_map, numL_len]; omega, _, k, by rw [numL_len], by omega, by unfold maxLen; omega, (fun h => by cases h), fun _ => ⟨g, 0, rfl, heap_lt hcur, fun j u hu => ?_⟩⟩, fun z hz => ?_⟩
        · have hj : j < k := by have := (List.getElem?_eq_some_iff.1 hu).1; rw [List.length_map, numL_len] at this; exact this
          rw [Nat.zero_add]
          have h1 := hall j hj
          have h2 : (numL k)[j]? = some (j : Int) := by unfold numL; rw [List.getElem?_map, List.getElem?_range hj]; rfl
          rw [List.getElem?_map, h2] at hu
          have h3 : u = .int .i64 j := by simpa using hu.symm
          rw [h3]
          simp [World.cell?, hcur, h1]
        · unfold numL at hz
          obtain ⟨j, hj, rfl⟩ := List.mem_map.1 hz
          rw [List.mem_range] at hj
          exact WalkArith.wf_i64 (by omega))
      have HXR := Lib.hid hxr
      clear hcur hsz hall hxr hlt hsz0 HX2 HCUR
      have hP := (len_want k).2.2.2.1
      obtain ⟨P, hPP⟩ : ∃ P, pmLen 3 (numL k) = P := ⟨_, rfl⟩
      have HPP := Lib.hid hPP
      rw [hPP] at hP
      have hPl := pmLen_le 3 (numL k)
      rw [numL_len, hPP] at hPl
      have HCP : Hid (∀ w, Ints .i64 w (.slice (some ⟨g, 0, none⟩) k k) (numL k) → Calls Try.prog 19 #[.int .i64 3, .slice (some ⟨g, 0, none⟩) k k] w fun e w' => ∃ a cap, e = .returned (.tuple #[.slice a P cap, .int .i64 0]) ∧ SlC w' (.slice a P cap) 4 P (pmAll 3 (numL k)) ∧ Ext w w') := Lib.hid (fun w h => by
        have := fprims_any 3 (by decide) (by decide) _ (numL k) w h (by rw [numL_len]; omega)
        rw [hPP] at this
        exact this)
      clear hPP
      have HPE := Lib.hid hP
      clear hP hM0
      obtain ⟨K1, hK1, hK1'⟩ : ∃ K1 : Int, (if (k : Int) - 1 < 0 then 0 else (k : Int) - 1) = K1 ∧ K1 = ((k - 1 : Nat) : Int) := ⟨_, rfl, by split <;> omega⟩
      obtain ⟨K2, hK2, hK2'⟩ : ∃ K2 : Int, (if (k : Int) - 2 < 0 then 0 else (k : Int) - 2) = K2 ∧ K2 = ((k - 2 : Nat) : Int) := ⟨_, rfl, by split <;> omega⟩
      obtain ⟨X, hX⟩ : ∃ X : Int, (if 2 ≤ k then (k : Int) else 0) = X := ⟨_, rfl⟩
      have HK1 := Lib.hid hK1'
      have HK2 := Lib.hid hK2'
      have HXE := Lib.hid hX
      have v1 : IntKind.i64.wrap ((k : Int) - 1) = (k : Int) - 1 := IntWalk.i64_in _ ⟨by omega, by omega⟩
      have v2 : IntKind.i64.wrap ((k : Int) - 2) = (k : Int) - 2 := IntWalk.i64_in _ ⟨by omega, by omega⟩
      clear hK1' hK2' hX
      go_upto_if 53 with (go_at_call 19; refine (HCP.out _ HIN.out).mono ?_; rintro _ w5 ⟨a5, c5, rfl, hs5, hx5⟩; have HS5 := Lib.hid hs5; have HX5 := Lib.hid (HXR.out.trans hx5); clear hs5 hx5)
      go_cut [9] (fun x wc => x = .int .i64 X ∧ w5 = wc)
      case first =>
        by_cases h2 : 2 ≤ k
        · have h2i : (2 : Int) ≤ (k : Int) := by omega
          have HE := Lib.hid (show X = (k : Int) by rw [← HXE.out, if_pos h2])
          clear h2
          go_wp2_with fail
          go_meet
          exact ⟨by rw [HE.out], rfl⟩
        · have h2i : ¬ (2 : Int) ≤ (k : Int) := by omega
          have HE := Lib.hid (show X = 0 by rw [← HXE.out, if_neg h2])
          clear h2
          go_wp2_with fail
          go_meet
          exact ⟨by rw [HE.out], rfl⟩
      case rest =>
        obtain ⟨rfl, rfl⟩ := hcut
        go_wp2_with fail
        go_loopw [78] (fun i wq => ∃ q : Nat, q ≤ P ∧ i = .int .i64 q ∧ Ext w5 wq) (fun i _ => P - (intOf i).toNat)
        case atStart => exact ⟨0, Nat.zero_le _, rfl, Ext.refl _⟩
        case round =>
          rename World => wq
          obtain ⟨q, hq, rfl, hxq⟩ := hrel
          by_cases hlt : q < P
          · obtain ⟨a, b, c, hp, ha, hb, hc⟩ := pm_ok (m := 3) (by decide) (by decide) (show q < pmLen 3 (numL _) by rw [HPP.out]; exact hlt)
            have hsl := HS5.out.ext hxq
            obtain ⟨b4, off4, rfl, hb4, _⟩ := hsl.pos (by omega)
            have q0 := prim_load (p0 := 2) hsl HPP.out.symm q hlt hp
            have hqi : (q : Int) < (P : Int) := by omega
            obtain ⟨w6, hst6, h6, hx6⟩ := newP4 wq 2 a b c
            have h6l := prim_load4 h6
            have e0 : w6.cell? ⟨wq.heap.size, 0, none⟩ = some (.int .i64 2) := cell_of_heap h6 rfl
            have e1 : w6.cell? ⟨wq.heap.size, 1, none⟩ = some (.int .i64 a) := cell_of_heap h6 rfl
            have e2 : w6.cell? ⟨wq.heap.size, 2, none⟩ = some (.int .i64 b) := cell_of_heap h6 rfl
            have e3 : w6.cell? ⟨wq.heap.size, 3, none⟩ = some (.int .i64 c) := cell_of_heap h6 rfl
            have n6 := heap_lt h6
            have H6 := Lib.hid h6
            have HX6 := Lib.hid (hxq.trans hx6)
            have HP := Lib.hid hp
            have HC := Lib.hid (comp_at ha hb hc)
            clear ha hb hc hsl h6 hxq hx6 hp
            go_wp2_with fail
            go_loop [89] (fun i => ∃ j : Nat, j ≤ 3 ∧ i = .int .i64 j) (fun i => 3 - (intOf i).toNat)
            case atStart => exact ⟨0, by omega, rfl⟩
            case round =>
              obtain ⟨j, hj, rfl⟩ := hrel
              by_cases hlt3 : j < 3
              · have hix := ix3 a b c j hlt3 w6
                have hcc := HC.out j hlt3
                have hji : (j : Int) < 3 := by omega
                generalize [a, b, c].getD j 0 = v at *
                by_cases hjs : j < 2
                · obtain ⟨hv1, hv2⟩ := hcc.1 hjs
                  have hjsi : (j : Int) < 2 := by omega
                  clear hcc
                  go_wp2_with fail
                  go_round
                  case rel => exact ⟨j + 1, by omega, by go_num⟩
                  case measure => simp [intOf]; omega
                · have hv1 := hcc.2 (by show 2 ≤ j; omega)
                  subst hv1
                  have hjsi : ¬ (j : Int) < 2 := by omega
                  clear hcc
                  go_wp2_with fail
                  go_round
                  case rel => exact ⟨j + 1, by omega, by go_num⟩
                  case measure => simp [intOf]; omega
              · obtain rfl : j = 3 := by omega
                clear hlt3
                rcases Nat.eq_zero_or_pos q with hq0 | hq0
                · have hq0i : decide ((0 : Int) < (q : Int)) = false := decide_eq_false (by omega)
                  go_upto_region 29 with fail
                  go_quiet (fail)
                  all_goals
                    go_wp2_with fail
                    go_roundw
                    case rel => exact ⟨q + 1, by omega, by go_num, by first | exact HX6.out | exact HX6.out.drew | exact HX6.out.drewN _⟩
                    case measure => simp [intOf]; omega
                · have hq0i : decide ((0 : Int) < (q : Int)) = true := decide_eq_true (by omega)
                  have hq0j : (0 : Int) < (q : Int) := by omega
                  go_upto_region 29 with fail
                  go_quiet (fail)
                  all_goals
                    go_wp2_with fail
                    go_roundw
                    case rel => exact ⟨q + 1, by omega, by go_num, by first | exact HX6.out | exact HX6.out.drew | exact HX6.out.drewN _⟩
                    case measure => simp [intOf]; omega
          · obtain rfl : q = P := by omega
            have HXQ := Lib.hid (HX5.out.trans hxq)
            clear hlt hxq
            go_wp2_with fail
            go_ret
            have hP := HPE.out
            have hq1 := HK1.out
            have hq2 := HK2.out
            have hq3 := HXE.out
            refine ⟨congrArg (fun b => Ending.returned (Value.bool b)) (?_ : ((q : Int) == K1) = true), HXQ.out⟩
            rw [beq_iff_eq]
            first | omega | (split at hP <;> simp_all)
end Go.Proofs.Ytgbcngmciabpkaa
