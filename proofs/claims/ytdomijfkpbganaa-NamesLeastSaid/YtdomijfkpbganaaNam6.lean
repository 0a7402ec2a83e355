/- The walk of NamesLeast. Conditions: each theorem's own premises. -/
import Derived.Test.YtdomijfkpbganaaNam5
import Derived.Test.YtdomijfkpbganaaMapB
namespace Go.Proofs.Ytdomijfkpbganaa
open Go.RowKit
set_option linter.unusedVariables false

theorem freeL_sorted (st : List Int) (n : Nat) : (freeL st n).Pairwise (· < ·) := by
  unfold freeL
  exact List.Pairwise.filter _ List.pairwise_lt_range'
theorem freeL_mark (st : List Int) (h : st.length = 65) (n : Nat) : freeL (markL st ((freeL st 64).take n)) 64 = (freeL st 64).drop n := by
  have key : freeL (markL st ((freeL st 64).take n)) 64 = (freeL st 64).filter (fun k => decide (k ∉ (freeL st 64).take n)) := by
    have hA : ∀ A : List Nat, A = (freeL st 64).take n → freeL (markL st A) 64 = (freeL st 64).filter (fun k => decide (k ∉ A)) := by
      intro A hA
      unfold freeL
      rw [List.filter_filter]
      refine List.filter_congr fun k hk => ?_
      have hk2 : 1 ≤ k ∧ k < 1 + 64 := by simpa [List.mem_range'_1] using hk
      by_cases hm : k ∈ A
      · rw [markL_mem _ _ _ hm (by omega), decide_eq_false (by simpa using hm)]
        rfl
      · rw [markL_getD _ _ _ hm, decide_eq_true hm]
        simp
    exact hA _ rfl
  rw [key]
  have hs := freeL_sorted st 64
  generalize freeL st 64 = L at *
  have : ∀ (A B : List Nat), (A ++ B).Pairwise (· < ·) → (A ++ B).filter (fun k => decide (k ∉ A)) = B := by
    intro A B h
    rw [List.pairwise_append] at h
    rw [List.filter_append, List.filter_eq_nil_iff.2 (by simp), List.nil_append, List.filter_eq_self]
    intro b hb
    simp only [decide_eq_true_eq]
    intro ha
    have := h.2.2 b ha b hb
    omega
  have h2 := this (L.take n) (L.drop n) (by rw [List.take_append_drop]; exact hs)
  rw [List.take_append_drop] at h2
  exact h2
/-- Behind which the next one is looked for. -/
def prevN (L : List Nat) (m : Nat) : Nat := if m = 0 then 0 else L.getD (m - 1) 0
theorem prev_lt (st : List Int) (m x : Nat) (h : (freeL st 64)[m]? = some x) : prevN (freeL st 64) m < x ∧ 1 ≤ x ∧ x ≤ 64 ∧ st.getD x 0 = 0 ∧ ∀ k, prevN (freeL st 64) m < k → k < x → st.getD k 0 ≠ 0 := by
  have hs := freeL_sorted st 64
  have hm : x ∈ freeL st 64 := List.mem_of_getElem? h
  rw [freeL_mem] at hm
  have hlt := (List.getElem?_eq_some_iff.1 h).1
  have hx := (List.getElem?_eq_some_iff.1 h).2
  rw [List.pairwise_iff_getElem] at hs
  have hp : prevN (freeL st 64) m < x := by
    unfold prevN
    split
    · omega
    · rw [List.getD_eq_getElem?_getD, List.getElem?_eq_getElem (by omega), Option.getD_some]
      have := hs (m - 1) m (by omega) hlt (by omega)
      omega
  refine ⟨hp, hm.1, hm.2.1, hm.2.2, fun k h1 h2 h0 => ?_⟩
  have hk : k ∈ freeL st 64 := by rw [freeL_mem]; omega
  obtain ⟨j, hj, e⟩ := List.mem_iff_getElem.1 hk
  have a1 : j < m := by
    rcases Nat.lt_trichotomy j m with a | a | a
    · exact a
    · subst a; omega
    · have := hs m j hlt hj a; omega
  unfold prevN at h1
  rw [if_neg (by omega), List.getD_eq_getElem?_getD, List.getElem?_eq_getElem (by omega)] at h1
  simp only [Option.getD_some] at h1
  rcases Nat.lt_or_ge j (m - 1) with a | a
  · have := hs j (m - 1) hj (by omega) a; omega
  · have : j = m - 1 := by omega
    subst this
    omega
/- WALK -/
theorem zero_bool (w : World) : (zeroValue 4).run Try.prog w = .ok (.bool false) w := by kernel_rfl
/-- What of the first m is free. -/
def freeM (st : List Int) (m : Nat) (j : Int) : Bool := decide (1 ≤ j ∧ j ≤ (m : Int)) && !(stOf st j != 0)
theorem freeM_zero (st : List Int) : freeM st 0 = fun _ => false := by
  funext j
  unfold freeM
  rw [decide_eq_false (by omega), Bool.false_and]
theorem freeM_succ (st : List Int) (m : Nat) : (fun j => if j = (m : Int) + 1 then !(stOf st ((m : Int) + 1) != 0) else freeM st m j) = freeM st (m + 1) := by
  funext j
  unfold freeM
  by_cases h : j = (m : Int) + 1
  · subst h
    have : (1 ≤ (m : Int) + 1 ∧ (m : Int) + 1 ≤ ((m + 1 : Nat) : Int)) := by omega
    rw [if_pos rfl, decide_eq_true this, Bool.true_and]
  · rw [if_neg h]
    congr 1
    by_cases h2 : 1 ≤ j ∧ j ≤ (m : Int)
    · rw [decide_eq_true h2, decide_eq_true (by omega)]
    · rw [decide_eq_false h2, decide_eq_false (by omega)]

theorem wf_i64' {n : Int} (h1 : -9223372036854775808 ≤ n) (h2 : n ≤ 9223372036854775807) : (Lit.int .i64 n).wf = true := by
  simp [Lit.wf, IntKind.min, IntKind.max, IntKind.signed, IntKind.bits]
  omega

set_option maxRecDepth 20000 in
set_option maxHeartbeats 4000000 in
theorem least_walk (w : World) (v : Value) (os : List (Int × Int)) (cnt : Int) (h : OpsAt w v os) : Calls Try.prog 3 #[v, .int .i64 cnt] w fun e w' => e = .returned (.bool true) ∧ Ext w w' := by
  go_enter Try.func3, Try.ntmps3
  go_wp2_with (first | (go_at_call 8; refine (wakes_any _).mono ?_; rintro e w1 ⟨rfl, hx1⟩; have hs1 := h.ext hx1) | (go_at_call 9; refine (new_any _).mono ?_; rintro e w2 ⟨p, rfl, hp, hn, hx2⟩; have hs2 := hs1.ext hx2) | (go_at_call 10; refine (few_any _ _ _ hs2).mono ?_; rintro e w3 ⟨u, rfl, hs3, rfl⟩; have hs4 := hs3 _ hs1; clear hs3; generalize hq : os.take 200 = qs at hs4; obtain ⟨_, a, cap, rfl, hc1, hc2, _, _⟩ := id hs4))
  clear h hs1 hs2 hq
  go_loopw [23] (fun i wr => ∃ (m : Nat) (st : List Int) (bd : Int), m ≤ qs.length ∧ i = .int .i64 m ∧ NmAt wr p st bd ∧ Chg [p] w2 wr) (fun i _ => qs.length - (intOf i).toNat)
  case atStart => exact ⟨0, _, 0, Nat.zero_le _, rfl, hn, Chg.refl _ _⟩
  case round =>
    obtain ⟨m, st, bd, hm, rfl, hnm, hx⟩ := hrel
    by_cases hlt : m < qs.length
    · obtain ⟨b, off, cap', hv, hb, hcap, hel⟩ := hs4.pos (by omega)
      cases hv
      obtain ⟨o, ho⟩ : ∃ o, qs[m]? = some o := ⟨qs[m], List.getElem?_eq_getElem hlt⟩
      obtain ⟨kk, N⟩ := o
      obtain ⟨hk1, hk2⟩ := hel m _ ho
      have hbp : b ≠ p := by omega
      have hk1 := (hx.cell (by simpa using hbp) ((hx2.cell hk1)))
      have hk2 := (hx.cell (by simpa using hbp) ((hx2.cell hk2)))
      simp only at hk1 hk2
      have hbs : b < wr.heap.size := by have := hx2.size; have := hx.size; omega
      have hml : (m : Int) < (qs.length : Int) := by omega
      have hps := hnm.lt
      clear hel ho hs4 hlt
      rcases kindR_cases kk with hk | hk | hk
      · have hkind := kind_any kk N (wr.alloc (.cells #[.int .i64 kk, .int .i64 N] 28))
        rw [hk] at hkind
        clear hk
        go_wp2_with (first | (go_at_call 11; refine hkind.mono ?_; rintro e w4 ⟨rfl, hx4⟩; have hnm4 := (hnm.ext ((Ext.refl _).alloc _)).ext hx4; have hy4 := (hx.alloc _).ext2 hx4; have hoN := hx4.cell (cell_of_heap (heap_alloc_new _ _) (o := 1) (v := _) rfl); clear hkind) | (go_at_call 12; refine (gen_any p _ _ N _ hnm4).mono ?_; rintro e w6 ⟨a5, c5, rfl, _, hnm6, hx6⟩; have hy6 := hy4.trans hx6))
        go_roundw
        case rel => exact ⟨m + 1, _, _, by omega, by go_num, hnm6, hy6⟩
        case measure => simp [intOf]; omega
      · have hkind := kind_any kk N (wr.alloc (.cells #[.int .i64 kk, .int .i64 N] 28))
        rw [hk] at hkind
        clear hk
        go_wp2_with (first | (go_at_call 11; refine hkind.mono ?_; rintro e w4 ⟨rfl, hx4⟩; have hnm4 := (hnm.ext ((Ext.refl _).alloc _)).ext hx4; have hy4 := (hx.alloc _).ext2 hx4; have hoN := hx4.cell (cell_of_heap (heap_alloc_new _ _) (o := 1) (v := _) rfl); clear hkind) | (go_at_call 13; refine (bind_any p _ _ _ _ hnm4).mono ?_; rintro e w6 ⟨rfl, hnm6, hx6⟩; have hy6 := hy4.trans hx6))
        go_roundw
        case rel => exact ⟨m + 1, _, _, by omega, by go_num, hnm6, hy6⟩
        case measure => simp [intOf]; omega
      · have hkind := kind_any kk N (wr.alloc (.cells #[.int .i64 kk, .int .i64 N] 28))
        rw [hk] at hkind
        clear hk
        go_wp2_with (first | (go_at_call 11; refine hkind.mono ?_; rintro e w4 ⟨rfl, hx4⟩; have hnm4 := (hnm.ext ((Ext.refl _).alloc _)).ext hx4; have hy4 := (hx.alloc _).ext2 hx4; have hoN := hx4.cell (cell_of_heap (heap_alloc_new _ _) (o := 1) (v := _) rfl); clear hkind) | (go_at_call 14; refine (delete_any p _ _ _ _ hnm4).mono ?_; rintro e w6 ⟨rfl, hnm6, hx6⟩; have hy6 := hy4.trans hx6))
        go_roundw
        case rel => exact ⟨m + 1, _, _, by omega, by go_num, hnm6, hy6⟩
        case measure => simp [intOf]; omega
    · obtain rfl : m = qs.length := by omega
      clear hlt hs4 hm hc1 hc2
      have hs12 := hx2.size
      have hmk := run_makeMap (P := Try.prog) 36
      have hlen := hnm.2
      go_wp2_with fail
      clear hmk
      have hnm1 := hnm.ext ((Ext.refl _).alloc (.map #[] 0))
      have hx1' := hx.alloc (.map #[] 0)
      have hbm := BMap.made (P := Try.prog) wr 3 4
      have hqp : wr.heap.size ≠ p := by have := hnm.lt; omega
      have hqw : w2.heap.size ≤ wr.heap.size := hx.size
      generalize wr.heap.size = q at *
      generalize wr.alloc (.map #[] 0) = wa at *
      clear hx hnm
      go_loopw [9] (fun i wr => ∃ (m : Nat), m ≤ 64 ∧ i = .int .i64 ((m : Int) + 1) ∧ NmAt wr p st bd ∧ BMap Try.prog wr 3 4 q m (freeM st m) ∧ Chg [p, q] w2 wr) (fun i _ => (65 - intOf i).toNat)
      case atStart => exact ⟨0, by omega, rfl, hnm1, by rw [freeM_zero]; exact hbm, hx1'.mono (by simp)⟩
      case round =>
        obtain ⟨m, hm, rfl, hnm, hbm, hx⟩ := hrel
        by_cases hlt : m < 64
        · obtain ⟨w5, hrun, hbm5, hx5⟩ := hbm.put Try.underlying3 Try.underlying4 Try.underlying36 (by unfold maxLen; omega) ((m : Int) + 1) (wf_i64' (by omega) (by omega)) (!(stOf st ((m : Int) + 1) != 0))
          have hnm5 := hnm.chg hx5 (by simp; omega)
          have hlt' : (m : Int) + 1 ≤ 64 := by omega
          have hx6 := hx.trans (hx5.mono (by simp))
          rw [freeM_succ] at hbm5
          have hU := used_any p st bd ((m : Int) + 1) wr hnm
          generalize (stOf st ((m : Int) + 1) != 0) = u at *
          go_wp2_with (go_at_call 15; refine hU.mono ?_; clear hU; rintro e w9 ⟨rfl, rfl⟩)
          go_roundw
          case rel => exact ⟨m + 1, by omega, by go_num, hnm5, hbm5, hx6⟩
          case measure => simp [intOf]; omega
        · obtain rfl : m = 64 := by omega
          clear hlt
          by_cases hneg : cnt < 0
          · have HG := Lib.hid (show genR st cnt = ([], 2, st) by unfold genR; rw [if_pos hneg])
            have hG := gen_any p st bd cnt _ hnm
            rw [HG.out] at hG
            go_wp2_with (first | (go_at_call 16; refine (left_any p _ _ _ hnm6).mono ?_; rintro e w9 ⟨rfl, rfl⟩) | (go_at_call 16; refine (left_any p _ _ _ hnm).mono ?_; rintro e w9 ⟨rfl, rfl⟩) | (go_at_call 12; refine hG.mono ?_; rintro e w6 ⟨a5, c5, rfl, _, hnm6, hx6⟩; clear hG))
            go_ret
            exact ⟨rfl, hx1.trans (hx2.chgTrans (hx.trans (hx6.mono (by simp))) (by simp; omega))⟩
          · by_cases hfull : ((freeL st 64).length : Int) < cnt
            · have HG := Lib.hid (show genR st cnt = ([], 6, st) by unfold genR; rw [if_neg hneg, if_pos hfull])
              have hG := gen_any p st bd cnt _ hnm
              rw [HG.out] at hG
              go_wp2_with (first | (go_at_call 16; refine (left_any p _ _ _ hnm6).mono ?_; rintro e w9 ⟨rfl, rfl⟩) | (go_at_call 16; refine (left_any p _ _ _ hnm).mono ?_; rintro e w9 ⟨rfl, rfl⟩) | (go_at_call 12; refine hG.mono ?_; rintro e w6 ⟨a5, c5, rfl, _, hnm6, hx6⟩; clear hG))
              go_ret
              exact ⟨rfl, hx1.trans (hx2.chgTrans (hx.trans (hx6.mono (by simp))) (by simp; omega))⟩
            · obtain ⟨n, rfl⟩ := Int.eq_ofNat_of_zero_le (show 0 ≤ cnt by omega)
              have hn' : n ≤ (freeL st 64).length := by omega
              have hn64 : (freeL st 64).length ≤ 64 := freeL_length st 64
              have HG := Lib.hid (show genR st (n : Int) = ((freeL st 64).take n, 0, markL st ((freeL st 64).take n)) by unfold genR; rw [if_neg hneg, if_neg hfull]; rfl)
              have HLL := Lib.hid (show ((freeL (markL st ((freeL st 64).take n)) 64).length : Int) = ((freeL st 64).length : Int) - (n : Int) by rw [freeL_mark st hlen n, List.length_drop]; omega)
              have hTl : ((freeL st 64).take n).length = n := by simp; omega
              have hTe : ∀ j x : Nat, ((freeL st 64).take n)[j]? = some x → (freeL st 64)[j]? = some x := by
                intro j x hj
                rw [List.getElem?_take] at hj
                split at hj
                · exact hj
                · cases hj
              have hG := gen_any p st bd n _ hnm
              rw [HG.out] at hG
              simp only [hTl] at hG
              clear hneg hfull
              have hpv := prev_lt st
              have hmk : ∀ x : Nat, x ∈ (freeL st 64).take n → stOf (markL st ((freeL st 64).take n)) (x : Int) = 1 := by
                intro x hx0
                have := (freeL_mem st 64 x).1 (List.mem_of_mem_take hx0)
                have hi : isName (x : Int) = true := by simp [isName]; omega
                unfold stOf
                rw [if_pos hi]
                exact markL_mem _ _ _ hx0 (by omega)
              generalize (freeL st 64).take n = T at *
              have hfl0 : (0 : Int) ≤ ((freeL st 64).length : Int) := by omega
              have hfl1 : ((freeL st 64).length : Int) ≤ 64 := by omega
              have hfl2 : (n : Int) ≤ ((freeL st 64).length : Int) := by omega
              generalize hLn : ((freeL st 64).length : Int) = LL at *
              go_wp2_with (first | (go_at_call 16; refine (left_any p _ _ _ hnm6).mono ?_; rw [HLL.out]; rintro e w9 ⟨rfl, rfl⟩) | (go_at_call 16; refine (left_any p _ _ _ hnm).mono ?_; rw [hLn]; rintro e w9 ⟨rfl, rfl⟩) | (go_at_call 12; refine hG.mono ?_; rintro e w6 ⟨a5, c5, rfl, hrow, hnm6, hx6⟩; clear hG))
              have hrow2 := SlC.owned hrow
              have hbm6 := hbm.chg hx6 (by simpa using hqp)
              have hps6 := hnm6.lt
              have hnE := Lib.hid hLn
              have hx6' := hx6
              clear hLn hx6 hrow hbm hnm
              go_loopw [13, 103] (fun la i wr => ∃ m : Nat, m ≤ n ∧ i = .int .i64 m ∧ la = .int .i64 (prevN (freeL st 64) m : Nat) ∧ wr = w6) (fun _ i _ => n - (intOf i).toNat)
              case atStart => exact ⟨0, Nat.zero_le _, rfl, rfl, rfl⟩
              case round =>
                obtain ⟨m, hm, rfl, rfl, rfl⟩ := hrel
                by_cases hlt : m < n
                · obtain ⟨x, hx0⟩ : ∃ x, T[m]? = some x := ⟨T[m], List.getElem?_eq_getElem (by omega)⟩
                  obtain ⟨_, a', c', he, _, hcb, _, h4⟩ := id hrow2
                  obtain ⟨b, off, rfl, hb, hc⟩ := h4 (by omega)
                  cases he
                  have hcell := hc m (.int .i64 (x : Int)) (by rw [natV, List.getElem?_map, hx0]; rfl)
                  obtain ⟨g1, g2, g3, g4, g5⟩ := hpv m x (hTe m x hx0)
                  have HM := Lib.hid (hmk x (List.mem_of_getElem? hx0))
                  have HP := Lib.hid (show prevN (freeL st 64) (m + 1) = x by unfold prevN; rw [if_neg (by omega), Nat.add_sub_cancel, List.getD_eq_getElem?_getD, hTe m x hx0]; rfl)
                  have hml : (m : Int) < (n : Int) := by omega
                  clear hc h4 hpv hmk hTe hx0
                  generalize prevN (freeL st 64) m = pv at *
                  go_wp2_with fail
                  go_loopw [16] (fun i wr' => ∃ k : Nat, pv < k ∧ k ≤ x ∧ i = .int .i64 k ∧ wr' = wr) (fun i _ => x - (intOf i).toNat)
                  case atStart => exact ⟨pv + 1, by omega, by omega, by go_num, rfl⟩
                  case round =>
                    obtain ⟨k, hk1, hk2, rfl, rfl⟩ := hrel
                    by_cases hkx : k < x
                    · have hf : freeM st 64 k = false := by
                        unfold freeM stOf
                        have := g5 k hk1 hkx
                        have hi : isName (k : Int) = true := by simp [isName]; omega
                        rw [if_pos hi, Int.toNat_natCast, show (st.getD k 0 != 0) = true by simpa using this]
                        simp
                      have hlook := hbm6.look Try.underlying3 Try.underlying4 Try.underlying36 (zero_bool _) (k : Int) (wf_i64' (by omega) (by omega))
                      rw [hf] at hlook
                      clear hf
                      have hkx' : (k : Int) < (x : Int) := by omega
                      go_wp2_with fail
                      go_roundw
                      case rel => exact ⟨k + 1, by omega, by omega, by go_num, by first | trivial | rfl⟩
                      case measure => simp [intOf]; omega
                    · obtain rfl : k = x := by omega
                      clear hkx
                      have hf : freeM st 64 k = true := by
                        unfold freeM stOf
                        have hi : isName (k : Int) = true := by simp [isName]; omega
                        rw [if_pos hi, Int.toNat_natCast, g4]
                        simp; omega
                      have hlook := hbm6.look Try.underlying3 Try.underlying4 Try.underlying36 (zero_bool _) (k : Int) (wf_i64' (by omega) (by omega))
                      rw [hf] at hlook
                      clear hf
                      have hgt : (pv : Int) < (k : Int) := by omega
                      go_wp2_with (first | (go_at_call 15; refine (used_any p _ _ _ _ hnm6).mono ?_; rw [HM.out]; rintro e w9 ⟨rfl, rfl⟩) | (go_at_call 17; refine (is_any p _ _ _ _ hnm6).mono ?_; rw [HM.out]; rintro e w9 ⟨rfl, rfl⟩))
                      go_roundw
                      case rel => exact ⟨m + 1, by omega, by go_num, by rw [HP.out], by first | trivial | rfl⟩
                      case measure => simp [intOf]; omega
                · obtain rfl : m = n := by omega
                  go_wp2_with fail
                  go_ret
                  exact ⟨rfl, hx1.trans (hx2.chgTrans (hx.trans (hx6'.mono (by simp))) (by simp; omega))⟩

theorem least_arg (W : World) (v0 v1 : Value) (h0 : ArgIs Try.prog W 22 v0) (h1 : ArgIs Try.prog W 3 v1) : Calls Try.prog 3 #[v0, v1] W fun e w' => e = .returned (.bool true) ∧ Ext W w' := by
  obtain ⟨os, h⟩ := ops_arg h0
  obtain ⟨c, rfl, _⟩ := h1.int Try.underlying3
  exact least_walk W v0 os c h
end Go.Proofs.Ytdomijfkpbganaa
