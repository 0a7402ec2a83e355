/- The walk of FetchVertex. Conditions: each theorem's own premises. -/
import Derived.Test.YtgbcngmciabpkaaFet14
namespace Go.Proofs.Ytgbcngmciabpkaa
open Go.RowKit Go.ChangeShapes
set_option linter.unusedVariables false

theorem four {L : List Int} (h : L.length = 4) : ∃ a b c d, L = [a, b, c, d] := by
  match L, h with
  | [a, b, c, d], _ => exact ⟨a, b, c, d, rfl⟩
theorem fv_bad (bs : List Int) {a : Arr} {i : Int} (h : fvOk a i = false) : fvV bs a i = vZ ∧ fvE bs a i = 2 := by unfold fvV fvE; rw [h]; exact ⟨rfl, rfl⟩
theorem fv_good (bs : List Int) {a : Arr} {i : Int} (h : fvOk a i = true) : fvV bs a i = vxV bs a i ∧ fvE bs a i = vxE bs a i := by unfold fvV fvE; rw [h]; exact ⟨rfl, rfl⟩
attribute [local go_sem] eq_vec eq_tri
attribute [local go_sem ↓] Ld_Vc St_Vc Ld_Ar
set_option maxRecDepth 100000 in
set_option maxHeartbeats 4000000 in
theorem vertex_walk (v : Value) (zs : List Int) (a : Arr) (i : Int) (w : World) (h : Ints .u8 w v zs) : Calls Try.prog 3 #[v, .agg a.C.toArray, .int .i64 i] w fun e w' => e = .returned (.bool true) ∧ Ext w w' := by
  obtain ⟨w0, hw0, ha, hx0⟩ : ∃ w0, w.alloc (.cells a.C.toArray 24) = w0 ∧ AAt w0 w.heap.size a ∧ Ext w w0 := ⟨_, rfl, heap_alloc_new _ _, (Ext.refl _).alloc _⟩
  have HW0 := Lib.hid hw0
  have HA := Lib.hid ha
  have HX0 := Lib.hid hx0
  have HIN := Lib.hid h
  clear hw0 ha hx0 h
  have hb : (zs.take 3000).length ≤ 100000 := by rw [List.length_take]; omega
  have HSH : Hid (∀ (w : World), Ints .u8 w v zs → Calls Try.prog 11 #[v] w fun e w' => ∃ b c, e = .returned (.slice (some ⟨b, 0, none⟩) (zs.take 3000).length c) ∧ Ints .u8 w' (.slice (some ⟨b, 0, none⟩) (zs.take 3000).length c) (zs.take 3000) ∧ Ext w w') := Lib.hid (fun w h => (short_any v zs w h).mono fun e w' hh => by
    obtain ⟨b, c, h1, h2, h3, h4, h5, h6⟩ := hh
    exact ⟨b, c, h1, h2, h6⟩)
  generalize zs.take 3000 = ys at *
  have HFV := Lib.hid (fun v w (h : Ints .u8 w v (ys)) => fvertex_any v (ys) a i w h hb)
  have HRR := Lib.hid (rright_any a)
  obtain ⟨v0, v1, v2, v3, hv⟩ := four (fvV_len (ys) a i)
  cases ho : arrOk a
  · rw [ho] at HRR
    obtain ⟨e1, e2⟩ := fv_bad (ys) (a := a) (i := i) (by unfold fvOk; rw [ho]; rfl)
    rw [hv] at HFV
    rw [e1] at hv
    obtain ⟨rfl, rfl, rfl, rfl⟩ : 0 = v0 ∧ 0 = v1 ∧ 0 = v2 ∧ 0 = v3 := by simpa [vZ] using hv
    rw [e2] at HFV
    have HFV : Hid (∀ (v : Value) (w : World), Ints .u8 w v (ys) → Calls Try.prog 12 #[v, .agg a.C.toArray, .int .i64 i] w fun e w' => e = .returned (.tuple #[.agg #[.int .i32 0, .int .i32 0, .int .i32 0, .int .i32 0], .int .i64 2]) ∧ Ext w w') := HFV
    clear e1 e2 hv ho
    go_enter Try.func3, Try.ntmps3
    go_upto_region 1 with fail
    rw [HW0.out]
    generalize w.heap.size = b0 at *
    clear HW0
    go_wp2_with (first | (go_at_call 10; refine (wakes_any _).mono ?_; rintro _ w1 ⟨rfl, hx1⟩; have HX1 := Lib.hid (HX0.out.trans hx1); have HA1 := Lib.hid (HA.out.ext hx1); have HIN1 := Lib.hid (HIN.out.ext HX1.out); clear hx1) | (go_at_call 11; refine (HSH.out _ HIN1.out).mono ?_; rintro _ w2 ⟨b, c, rfl, hin2, hx2⟩; have HX2 := Lib.hid (HX1.out.trans hx2); have HA2 := Lib.hid (HA1.out.ext hx2); have HIN2 := Lib.hid hin2; have hl2 := HA2.out.load; have n2 := heap_lt HA2.out; clear hx2 hin2) | (go_at_call 12; refine (HFV.out _ _ HIN2.out).mono ?_; rintro _ w3 ⟨rfl, hx3⟩; obtain ⟨w4, hst4, h4, hx4⟩ := newV4 w3 0 0 0 0; have HX4 := Lib.hid ((HX2.out.trans hx3).trans hx4); have HA4 := Lib.hid ((HA2.out.ext hx3).ext hx4); have HIN4 := Lib.hid ((HIN2.out.ext hx3).ext hx4); have hl4 := HA4.out.load; have H4 := Lib.hid h4; have n4 := heap_lt HA4.out; clear h4 hx3 hx4) | (go_at_call 13; refine (HRR.out _).mono ?_; rintro _ w5 ⟨rfl, hx5⟩; have HX5 := Lib.hid (HX4.out.trans hx5); have hl5 := (HA4.out.ext hx5).load; have H5 := Lib.hid (H4.out.ext hx5); have HIN5 := Lib.hid (HIN4.out.ext hx5); have hv5 := H5.out.load4; have n5 := heap_lt H5.out; clear hx5))
    go_ret
    exact ⟨rfl, HX5.out⟩
  · rw [ho] at HRR
    by_cases hi : 0 ≤ i ∧ i ≤ 65535
    · obtain ⟨hi1, hi2⟩ := hi
      obtain ⟨e1, e2⟩ := fv_good (ys) (a := a) (i := i) (by unfold fvOk; rw [ho, decide_eq_true hi1, decide_eq_true hi2]; rfl)
      have HRV := Lib.hid (fun v w (h : Ints .u8 w v (ys)) => rvertex_any v (ys) a i w h hb ho hi1 (by omega))
      rw [← e1, hv] at HRV
      rw [hv] at HFV
      rw [e1] at hv
      cases hk : vxOk (ys) a i
      · unfold vxV at hv
        rw [hk] at hv
        unfold vxE at e2
        rw [hk] at e2
        rw [e2] at HFV
        rw [hk] at HRV
        obtain ⟨rfl, rfl, rfl, rfl⟩ : 0 = v0 ∧ 0 = v1 ∧ 0 = v2 ∧ 0 = v3 := by simpa [vZ] using hv
        have HFV : Hid (∀ (v : Value) (w : World), Ints .u8 w v (ys) → Calls Try.prog 12 #[v, .agg a.C.toArray, .int .i64 i] w fun e w' => e = .returned (.tuple #[.agg #[.int .i32 0, .int .i32 0, .int .i32 0, .int .i32 0], .int .i64 7]) ∧ Ext w w') := HFV
        have HRV : Hid (∀ (v : Value) (w : World), Ints .u8 w v (ys) → Calls Try.prog 14 #[v, .agg a.C.toArray, .int .i64 i] w fun e w' => e = .returned (.tuple #[.agg #[.int .i32 0, .int .i32 0, .int .i32 0, .int .i32 0], .bool false]) ∧ Ext w w') := HRV
        clear e1 e2 hv ho hk
        go_enter Try.func3, Try.ntmps3
        go_upto_region 1 with fail
        rw [HW0.out]
        generalize w.heap.size = b0 at *
        clear HW0
        go_wp2_with (first | (go_at_call 10; refine (wakes_any _).mono ?_; rintro _ w1 ⟨rfl, hx1⟩; have HX1 := Lib.hid (HX0.out.trans hx1); have HA1 := Lib.hid (HA.out.ext hx1); have HIN1 := Lib.hid (HIN.out.ext HX1.out); clear hx1) | (go_at_call 11; refine (HSH.out _ HIN1.out).mono ?_; rintro _ w2 ⟨b, c, rfl, hin2, hx2⟩; have HX2 := Lib.hid (HX1.out.trans hx2); have HA2 := Lib.hid (HA1.out.ext hx2); have HIN2 := Lib.hid hin2; have hl2 := HA2.out.load; have n2 := heap_lt HA2.out; clear hx2 hin2) | (go_at_call 12; refine (HFV.out _ _ HIN2.out).mono ?_; rintro _ w3 ⟨rfl, hx3⟩; obtain ⟨w4, hst4, h4, hx4⟩ := newV4 w3 0 0 0 0; have HX4 := Lib.hid ((HX2.out.trans hx3).trans hx4); have HA4 := Lib.hid ((HA2.out.ext hx3).ext hx4); have HIN4 := Lib.hid ((HIN2.out.ext hx3).ext hx4); have hl4 := HA4.out.load; have H4 := Lib.hid h4; have n4 := heap_lt HA4.out; clear h4 hx3 hx4) | (go_at_call 13; refine (HRR.out _).mono ?_; rintro _ w5 ⟨rfl, hx5⟩; have HX5 := Lib.hid (HX4.out.trans hx5); have hl5 := (HA4.out.ext hx5).load; have H5 := Lib.hid (H4.out.ext hx5); have HIN5 := Lib.hid (HIN4.out.ext hx5); have hv5 := H5.out.load4; have n5 := heap_lt H5.out; clear hx5) | (go_at_call 14; refine (HRV.out _ _ HIN5.out).mono ?_; rintro _ w6 ⟨rfl, hx6⟩; obtain ⟨w7, hst7, h7, hx7⟩ := newV4 w6 0 0 0 0; have HX7 := Lib.hid ((HX5.out.trans hx6).trans hx7); have hv7 := ((H5.out.ext hx6).ext hx7).load4; have hq7 := h7.load4; have n7 := heap_lt h7; clear hx6 hx7))
        go_ret
        exact ⟨rfl, HX7.out⟩
      · unfold vxE at e2
        rw [hk] at e2
        rw [e2] at HFV
        rw [hk] at HRV
        have HFV' : Hid (∀ (v : Value) (w : World), Ints .u8 w v (ys) → Calls Try.prog 12 #[v, .agg a.C.toArray, .int .i64 i] w fun e w' => e = .returned (.tuple #[.agg #[.int .i32 v0, .int .i32 v1, .int .i32 v2, .int .i32 v3], .int .i64 0]) ∧ Ext w w') := HFV
        have HRV' : Hid (∀ (v : Value) (w : World), Ints .u8 w v (ys) → Calls Try.prog 14 #[v, .agg a.C.toArray, .int .i64 i] w fun e w' => e = .returned (.tuple #[.agg #[.int .i32 v0, .int .i32 v1, .int .i32 v2, .int .i32 v3], .bool true]) ∧ Ext w w') := HRV
        clear e1 e2 hv ho hk HFV HRV
        go_enter Try.func3, Try.ntmps3
        go_upto_region 1 with fail
        rw [HW0.out]
        generalize w.heap.size = b0 at *
        clear HW0
        go_wp2_with (first | (go_at_call 10; refine (wakes_any _).mono ?_; rintro _ w1 ⟨rfl, hx1⟩; have HX1 := Lib.hid (HX0.out.trans hx1); have HA1 := Lib.hid (HA.out.ext hx1); have HIN1 := Lib.hid (HIN.out.ext HX1.out); clear hx1) | (go_at_call 11; refine (HSH.out _ HIN1.out).mono ?_; rintro _ w2 ⟨b, c, rfl, hin2, hx2⟩; have HX2 := Lib.hid (HX1.out.trans hx2); have HA2 := Lib.hid (HA1.out.ext hx2); have HIN2 := Lib.hid hin2; have hl2 := HA2.out.load; have n2 := heap_lt HA2.out; clear hx2 hin2) | (go_at_call 12; refine (HFV'.out _ _ HIN2.out).mono ?_; rintro _ w3 ⟨rfl, hx3⟩; obtain ⟨w4, hst4, h4, hx4⟩ := newV4 w3 v0 v1 v2 v3; have HX4 := Lib.hid ((HX2.out.trans hx3).trans hx4); have HA4 := Lib.hid ((HA2.out.ext hx3).ext hx4); have HIN4 := Lib.hid ((HIN2.out.ext hx3).ext hx4); have hl4 := HA4.out.load; have H4 := Lib.hid h4; have n4 := heap_lt HA4.out; clear h4 hx3 hx4) | (go_at_call 13; refine (HRR.out _).mono ?_; rintro _ w5 ⟨rfl, hx5⟩; have HX5 := Lib.hid (HX4.out.trans hx5); have hl5 := (HA4.out.ext hx5).load; have H5 := Lib.hid (H4.out.ext hx5); have HIN5 := Lib.hid (HIN4.out.ext hx5); have hv5 := H5.out.load4; have n5 := heap_lt H5.out; clear hx5) | (go_at_call 14; refine (HRV'.out _ _ HIN5.out).mono ?_; rintro _ w6 ⟨rfl, hx6⟩; obtain ⟨w7, hst7, h7, hx7⟩ := newV4 w6 v0 v1 v2 v3; have HX7 := Lib.hid ((HX5.out.trans hx6).trans hx7); have hv7 := ((H5.out.ext hx6).ext hx7).load4; have hq7 := h7.load4; have n7 := heap_lt h7; clear hx6 hx7))
        go_ret
        exact ⟨rfl, HX7.out⟩
    · obtain ⟨e1, e2⟩ := fv_bad (ys) (a := a) (i := i) (by
        unfold fvOk
        rw [ho]
        rcases Int.lt_or_le i 0 with h | h
        · rw [decide_eq_false (by omega)]; rfl
        · rw [decide_eq_false (show ¬ i ≤ 65535 by omega)]; simp)
      rw [hv] at HFV
      rw [e1] at hv
      obtain ⟨rfl, rfl, rfl, rfl⟩ : 0 = v0 ∧ 0 = v1 ∧ 0 = v2 ∧ 0 = v3 := by simpa [vZ] using hv
      rw [e2] at HFV
      have HFV : Hid (∀ (v : Value) (w : World), Ints .u8 w v (ys) → Calls Try.prog 12 #[v, .agg a.C.toArray, .int .i64 i] w fun e w' => e = .returned (.tuple #[.agg #[.int .i32 0, .int .i32 0, .int .i32 0, .int .i32 0], .int .i64 2]) ∧ Ext w w') := HFV
      clear e1 e2 hv ho
      rcases Int.lt_or_le i 0 with h | h
      · clear hi
        go_enter Try.func3, Try.ntmps3
        go_upto_region 1 with fail
        rw [HW0.out]
        generalize w.heap.size = b0 at *
        clear HW0
        go_wp2_with (first | (go_at_call 10; refine (wakes_any _).mono ?_; rintro _ w1 ⟨rfl, hx1⟩; have HX1 := Lib.hid (HX0.out.trans hx1); have HA1 := Lib.hid (HA.out.ext hx1); have HIN1 := Lib.hid (HIN.out.ext HX1.out); clear hx1) | (go_at_call 11; refine (HSH.out _ HIN1.out).mono ?_; rintro _ w2 ⟨b, c, rfl, hin2, hx2⟩; have HX2 := Lib.hid (HX1.out.trans hx2); have HA2 := Lib.hid (HA1.out.ext hx2); have HIN2 := Lib.hid hin2; have hl2 := HA2.out.load; have n2 := heap_lt HA2.out; clear hx2 hin2) | (go_at_call 12; refine (HFV.out _ _ HIN2.out).mono ?_; rintro _ w3 ⟨rfl, hx3⟩; obtain ⟨w4, hst4, h4, hx4⟩ := newV4 w3 0 0 0 0; have HX4 := Lib.hid ((HX2.out.trans hx3).trans hx4); have HA4 := Lib.hid ((HA2.out.ext hx3).ext hx4); have HIN4 := Lib.hid ((HIN2.out.ext hx3).ext hx4); have hl4 := HA4.out.load; have H4 := Lib.hid h4; have n4 := heap_lt HA4.out; clear h4 hx3 hx4) | (go_at_call 13; refine (HRR.out _).mono ?_; rintro _ w5 ⟨rfl, hx5⟩; have HX5 := Lib.hid (HX4.out.trans hx5); have hl5 := (HA4.out.ext hx5).load; have H5 := Lib.hid (H4.out.ext hx5); have HIN5 := Lib.hid (HIN4.out.ext hx5); have hv5 := H5.out.load4; have n5 := heap_lt H5.out; clear hx5))
        go_ret
        exact ⟨rfl, HX5.out⟩
      · have h2 : 65535 < i := by omega
        clear hi
        go_enter Try.func3, Try.ntmps3
        go_upto_region 1 with fail
        rw [HW0.out]
        generalize w.heap.size = b0 at *
        clear HW0
        go_wp2_with (first | (go_at_call 10; refine (wakes_any _).mono ?_; rintro _ w1 ⟨rfl, hx1⟩; have HX1 := Lib.hid (HX0.out.trans hx1); have HA1 := Lib.hid (HA.out.ext hx1); have HIN1 := Lib.hid (HIN.out.ext HX1.out); clear hx1) | (go_at_call 11; refine (HSH.out _ HIN1.out).mono ?_; rintro _ w2 ⟨b, c, rfl, hin2, hx2⟩; have HX2 := Lib.hid (HX1.out.trans hx2); have HA2 := Lib.hid (HA1.out.ext hx2); have HIN2 := Lib.hid hin2; have hl2 := HA2.out.load; have n2 := heap_lt HA2.out; clear hx2 hin2) | (go_at_call 12; refine (HFV.out _ _ HIN2.out).mono ?_; rintro _ w3 ⟨rfl, hx3⟩; obtain ⟨w4, hst4, h4, hx4⟩ := newV4 w3 0 0 0 0; have HX4 := Lib.hid ((HX2.out.trans hx3).trans hx4); have HA4 := Lib.hid ((HA2.out.ext hx3).ext hx4); have HIN4 := Lib.hid ((HIN2.out.ext hx3).ext hx4); have hl4 := HA4.out.load; have H4 := Lib.hid h4; have n4 := heap_lt HA4.out; clear h4 hx3 hx4) | (go_at_call 13; refine (HRR.out _).mono ?_; rintro _ w5 ⟨rfl, hx5⟩; have HX5 := Lib.hid (HX4.out.trans hx5); have hl5 := (HA4.out.ext hx5).load; have H5 := Lib.hid (H4.out.ext hx5); have HIN5 := Lib.hid (HIN4.out.ext hx5); have hv5 := H5.out.load4; have n5 := heap_lt H5.out; clear hx5))
        go_ret
        exact ⟨rfl, HX5.out⟩
theorem arr_arg {W : World} {v : Value} (h : ArgIs Try.prog W 24 v) : ∃ a : Arr, v = .agg a.C.toArray := by
  obtain ⟨cs, rfl, g0⟩ := h.agg 3 (ls := [.int .i64, .int .i64, .bool, .int .i64, .int .i64]) rfl rfl rfl
  obtain ⟨u0, us, rfl, ⟨k0, rfl, _⟩, g1⟩ := g0.cons_inv
  obtain ⟨u1, us, rfl, ⟨k1, rfl, _⟩, g2⟩ := g1.cons_inv
  obtain ⟨u2, us, rfl, ⟨k2, rfl⟩, g3⟩ := g2.cons_inv
  obtain ⟨u3, us, rfl, ⟨k3, rfl, _⟩, g4⟩ := g3.cons_inv
  obtain ⟨u4, us, rfl, ⟨k4, rfl, _⟩, g5⟩ := g4.cons_inv
  obtain rfl := g5.nil_inv
  exact ⟨⟨k0, k1, k2, k3, k4⟩, rfl⟩
theorem vertex_arg (W : World) (v0 v1 v2 : Value) (h0 : ArgIs Try.prog W 22 v0) (h1 : ArgIs Try.prog W 24 v1) (h2 : ArgIs Try.prog W 3 v2) : Calls Try.prog 3 #[v0, v1, v2] W fun e w' => e = .returned (.bool true) ∧ Ext W w' := by
  obtain ⟨zs, hz⟩ := h0.ints Try.underlying22 Try.underlying5 rfl rfl
  obtain ⟨a, rfl⟩ := arr_arg h1
  obtain ⟨i, rfl, _⟩ := h2.int Try.underlying3
  exact vertex_walk v0 zs a i W hz.1
end Go.Proofs.Ytgbcngmciabpkaa
