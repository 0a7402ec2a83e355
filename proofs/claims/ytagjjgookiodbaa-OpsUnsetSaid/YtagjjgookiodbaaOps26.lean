/- The walk of OpsDepth. Conditions: each theorem's own premises. -/
import Derived.Test.YtagjjgookiodbaaOps25
namespace Go.Proofs.Ytagjjgookiodbaa
open Go.RowKit
set_option linter.unusedVariables false
set_option linter.unusedSimpArgs false
attribute [local go_sem ↓] Ld_V4 St_V4 Ld_St St_St Ld_Ce St_Ce
attribute [local go_sem ↓] eqC eqCz eqV eqVz

def std (how : Int) : St := { st0 with dt := true, df := how }
def frd (z : Int) : Fr := ⟨0, 0, z, 0, false, zero4, .slice none 0 0⟩
def ced (d : Int) : Ce := ⟨zero4, d, 0⟩
theorem std_ok (how : Int) : stOk (std how) = inV how 1 8 := by
  have h1 : ([side0, side0].all stenOk) = true := by decide +kernel
  have h2 : ([bl0, bl0].all blOk) = true := by decide +kernel
  have h3 : (!(zero4.L.any outV)) = true := by decide +kernel
  show ((decide ((0 : Int) ≤ 0) && decide ((0 : Int) ≤ 0) && inV how 1 8 && !(zero4.L.any outV)) && ([side0, side0].all stenOk) && ([bl0, bl0].all blOk)) = _
  rw [h1, h2, h3]
  simp
theorem ced_ok (d : Int) : ceOk (ced d) = !outV d := by
  have h3 : (!(zero4.L.any outV)) = true := by decide +kernel
  show (inV 0 0 255 && !outV d && !(zero4.L.any outV)) = _
  rw [h3, show inV 0 0 255 = true by decide +kernel]
  simp
theorem applyd (how z d : Int) : applyV (std how) (frd z) zero4 (ced d) = if cmpV how (clV z) d then (ced (clV z), true) else (ced d, false) := by
  cases h : cmpV how (clV z) d
  · refine (applyV_dt (s := std how) (f := frd z) (c := ced d) rfl rfl ?_ zero4).trans rfl
    show (true && !cmpV how (clV z) d) = true
    rw [h]; rfl
  · refine (applyV_pass (s := std how) (f := frd z) (c := ced d) rfl rfl ?_ zero4).trans rfl
    show (true && !cmpV how (clV z) d) = false
    rw [h]; rfl
set_option maxHeartbeats 4000000 in
set_option maxRecDepth 30000 in
theorem depth_walk (how z d : Int) (w : World) : Calls Try.prog 9 #[.int .i64 how, .int .i32 z, .int .i32 d] w fun e w' => e = .returned (.bool true) ∧ Ext w w' := by
  obtain ⟨A, hA⟩ : ∃ A, applyR (std how) (frd z) zero4 (ced d) = A := ⟨_, rfl⟩
  have HAPP : ∀ w, Calls Try.prog 11 #[.agg (std how).C.toArray, .agg #[.int .i64 0, .int .i64 0, .int .i32 z, .int .i32 0, .bool false, .int .i32 0, .int .i32 0, .int .i32 0, .int .i32 0, .slice none 0 0], .agg #[.int .i32 0, .int .i32 0, .int .i32 0, .int .i32 0], .agg #[.int .i32 0, .int .i32 0, .int .i32 0, .int .i32 0, .int .i32 d, .int .i64 0]] w fun e w' => e = .returned (.tuple #[.agg A.1.C.toArray, .bool A.2.1, .int .i64 A.2.2]) ∧ Ext w w' := fun w => by
    rw [← hA]
    exact apply_any (std how) (frd z) zero4 (ced d) w
  have HAP := Lib.hid HAPP
  have HA := Lib.hid hA
  clear HAPP hA
  go_enter Try.func9, Try.ntmps9
  go_upto_region 3 with (go_at_call 10; refine (wakes_any _).mono ?_; rintro _ w1 ⟨rfl, hx1⟩; have HX1 := Lib.hid hx1)
  go_upto_region 4 with (go_at_call 22; refine (new_any _).mono ?_; rintro _ w2 ⟨rfl, hx2⟩; obtain ⟨w3, hst, h3, hx3⟩ := newS w2 st0; have HX3 := Lib.hid (HX1.out.trans (hx2.trans hx3)); have HS3 := Lib.hid h3; have HB := Lib.hid ((HX1.out.trans hx2).size); clear hx2 h3 hx3)
  clear hst
  have c0 : w3.cell? ⟨w2.heap.size, 20, none⟩ = some (.bool false) := cell_of_heap HS3.out rfl
  have f0 : w3.frozen? ⟨w2.heap.size, 20, none⟩ = false := free_of_heap HS3.out
  have h4 : w3.heap[w2.heap.size]? = some (.cells st0.C.toArray 33 (0, 0)) := HS3.out
  have h5 := heap_set (k := 20) (u := .bool true) h4
  have c1 : (w3.setCell ⟨w2.heap.size, 20, none⟩ (.bool true)).cell? ⟨w2.heap.size, 22, none⟩ = some (.int .i64 2) := cell_of_heap h5 rfl
  have f1 : (w3.setCell ⟨w2.heap.size, 20, none⟩ (.bool true)).frozen? ⟨w2.heap.size, 22, none⟩ = false := free_of_heap h5
  have h6 : StAt ((w3.setCell ⟨w2.heap.size, 20, none⟩ (.bool true)).setCell ⟨w2.heap.size, 22, none⟩ (.int .i64 how)) w2.heap.size (std how) := heap_set (k := 22) (u := .int .i64 how) h5
  have hx6 : Ext w ((w3.setCell ⟨w2.heap.size, 20, none⟩ (.bool true)).setCell ⟨w2.heap.size, 22, none⟩ (.int .i64 how)) := (HX3.out.setCell HB.out _).setCell HB.out _
  have HS6 := Lib.hid h6
  have HX6 := Lib.hid hx6
  have n0 := heap_lt HS3.out
  clear h4 h5 h6 hx6 HX3 HS3 HB
  go_upto_region 5 with fail
  clear c0 f0 c1 f1 n0
  generalize (w3.setCell ⟨w2.heap.size, 20, none⟩ (.bool true)).setCell ⟨w2.heap.size, 22, none⟩ (.int .i64 how) = w6 at *
  generalize w2.heap.size = bs at *
  have l1 := HS6.out.load
  have n1 := heap_lt HS6.out
  go_upto_region 6 with (go_at_call 11; refine (HAP.out _).mono ?_; rintro _ w7 ⟨rfl, hx7⟩; obtain ⟨w8, hst, h8, hx8⟩ := newC w7 A.1; have HC := Lib.hid h8; have HX8 := Lib.hid (HX6.out.trans (hx7.trans hx8)); clear h8 hx7 hx8)
  clear hst l1 n1
  generalize w7.heap.size = bc at *
  obtain ⟨B, hB⟩ : ∃ B, (inV how 1 8 && !outV d) = B := ⟨_, rfl⟩
  have HBB := Lib.hid hB
  clear hB
  go_cut [43] (fun v wc => v = .bool (!B) ∧ w8 = wc)
  case first =>
    have hh : (!B) = (decide (how < 1) || decide (8 < how) || decide (d < 0) || decide (65536 < d)) := by
      rw [← HBB.out]
      unfold inV outV
      by_cases h1 : how < 1
      · rw [decide_eq_false (show ¬ 1 ≤ how by omega), decide_eq_true h1]; rfl
      · rw [decide_eq_true (show 1 ≤ how by omega), decide_eq_false h1]
        by_cases h2 : 8 < how
        · rw [decide_eq_false (show ¬ how ≤ 8 by omega), decide_eq_true h2]; rfl
        · rw [decide_eq_true (show how ≤ 8 by omega), decide_eq_false h2]
          generalize decide (d < 0) = x
          generalize decide (65536 < d) = y
          cases x <;> cases y <;> rfl
    have HH := Lib.hid hh
    clear hh
    by_cases h1 : how < 1
    · have K1 := Lib.hid h1
      go_wp2_with fail
      go_meet
      exact ⟨by rw [HH.out, decide_eq_true K1.out]; rfl, rfl⟩
    · by_cases h2 : 8 < how
      · have K1 := Lib.hid h1
        have K2 := Lib.hid h2
        go_wp2_with fail
        go_meet
        exact ⟨by rw [HH.out, decide_eq_true K2.out]; simp, rfl⟩
      · by_cases h3 : d < 0
        · have K3 := Lib.hid h3
          go_wp2_with fail
          go_meet
          exact ⟨by rw [HH.out, decide_eq_true K3.out]; simp, rfl⟩
        · have K1 := Lib.hid h1
          have K2 := Lib.hid h2
          have K3 := Lib.hid h3
          go_wp2_with fail
          go_meet
          exact ⟨by rw [HH.out, show decide (how < 1) = false by have := K1.out; simp; omega, show decide (8 < how) = false by have := K2.out; simp; omega, show decide (d < 0) = false by have := K3.out; simp; omega]; rfl, rfl⟩
  case rest =>
    obtain ⟨rfl, rfl⟩ := hcut
    cases B
    · simp only [Bool.not_false]
      have hne : A.1 = ceZ ∧ (A.2.2 = 340 ∨ A.2.2 = 2) := by
        rw [← HA.out]
        have hb := HBB.out
        cases hh : stOk (std how)
        · rw [applyR_not hh]; exact ⟨rfl, Or.inl rfl⟩
        · have : ceOk (ced d) = false := by
            rw [std_ok] at hh
            rw [hh] at hb
            rw [ced_ok]
            revert hb
            cases outV d <;> simp
          rw [applyR_arg hh this]; exact ⟨rfl, Or.inr rfl⟩
      obtain ⟨A1, A2, A3⟩ := A
      obtain ⟨h1, h2⟩ := hne
      have h1 : A1 = ceZ := h1
      have h2 : A3 = 340 ∨ A3 = 2 := h2
      subst h1
      have HC : Hid (CAt w8 bc ceZ) := HC
      have l1 := HC.out.load2
      have n1 := heap_lt HC.out
      clear HA HAP
      rcases h2 with rfl | rfl
      · go_wp2_with fail
        all_goals go_ret
        all_goals exact ⟨by simp, HX8.out⟩
      · go_wp2_with fail
        all_goals go_ret
        all_goals exact ⟨by simp, HX8.out⟩
    · simp only [Bool.not_true]
      have hb := HBB.out
      rw [Bool.and_eq_true] at hb
      have hok : stOk (std how) = true := by rw [std_ok]; exact hb.1
      have hco : ceOk (ced d) = true := by rw [ced_ok]; exact hb.2
      have hd := ceOk_dep hco
      have hd1 : 0 ≤ d := hd.1
      have hd2 : d ≤ 65536 := hd.2
      have hz1 := (clV_in z).1
      have hz2 := (clV_in z).2
      have hA2 := HA.out
      rw [applyR_ok hok hco, applyd] at hA2
      obtain ⟨K, hK⟩ : ∃ K, clV z = K := ⟨_, rfl⟩
      have HK := Lib.hid hK
      rw [hK] at hA2 hz1 hz2
      obtain ⟨P, hP⟩ : ∃ P, cmpV how K d = P := ⟨_, rfl⟩
      have HCMP : ∀ w, Calls Try.prog 20 #[.int .i64 how, .int .i64 K, .int .i64 d] w fun e w' => e = .returned (.bool P) ∧ w = w' := fun w => by rw [← hP]; exact compare_any _ _ _ _
      have HCM := Lib.hid HCMP
      rw [hP] at hA2
      have HA3 := Lib.hid hA2
      clear hb hok hco hd hK hP HA HAP HCMP hA2 HBB
      go_upto_region 8 with fail
      go_cut [11] (fun v wc => v = .int .i32 K ∧ w8 = wc)
      case first =>
        clear hz1 hz2
        go_wp2_with fail
        all_goals go_meet
        all_goals exact ⟨congrArg (Value.int .i32) (by have := HK.out; unfold clV at this; omega), rfl⟩
      case rest =>
        obtain ⟨rfl, rfl⟩ := hcut
        go_upto_region 10 with (go_at_call 20; refine (HCM.out _).mono ?_; rintro _ _ ⟨rfl, rfl⟩)
        cases P
        · have hz : A = (ced d, false, 0) := HA3.out.symm
          subst hz
          have HC : Hid (CAt w8 bc (ced d)) := HC
          have c4 : w8.cell? ⟨bc, 4, none⟩ = some (.int .i32 d) := cell_of_heap HC.out rfl
          have n1 := heap_lt HC.out
          go_wp2_with fail
          all_goals go_ret
          all_goals exact ⟨by simp, HX8.out⟩
        · have hz : A = (ced K, true, 0) := HA3.out.symm
          subst hz
          have HC : Hid (CAt w8 bc (ced K)) := HC
          have c4 : w8.cell? ⟨bc, 4, none⟩ = some (.int .i32 K) := cell_of_heap HC.out rfl
          have n1 := heap_lt HC.out
          go_wp2_with fail
          all_goals go_ret
          all_goals exact ⟨by simp, HX8.out⟩
theorem depth_arg (W : World) (v0 v1 v2 : Value) (h0 : ArgIs Try.prog W 3 v0) (h1 : ArgIs Try.prog W 28 v1) (h2 : ArgIs Try.prog W 28 v2) : Calls Try.prog 9 #[v0, v1, v2] W fun e w' => e = .returned (.bool true) ∧ Ext W w' := by
  obtain ⟨t, rfl, _⟩ := h0.int Try.underlying3
  obtain ⟨a, rfl, _⟩ := h1.int Try.underlying28
  obtain ⟨b, rfl, _⟩ := h2.int Try.underlying28
  exact depth_walk t a b W
end Go.Proofs.Ytagjjgookiodbaa
