/- What is cleared is of one colour: plain laws; the walk of FrameClears. Conditions: each theorem's own premises. The walk of FrameClears. Conditions: each theorem's own premises. -/
import Derived.Test.YtgdcdkajicgliaaFraX
import Derived.Test.YtgdcdkajicgliaaFraD
import Derived.Test.YtgdcdkajicgliaaOps1
import Derived.Deep.RegionHeld3
namespace Go.Proofs.Ytgdcdkajicgliaa
open Go.RowKit
set_option linter.unusedVariables false
set_option maxRecDepth 100000
set_option linter.unusedSimpArgs false

theorem zero_sten (W H F : Nat) (d s : Bool) (j : Nat) : (cellV (plZ W H F d s) j).sten = 0 := by
  show (if s then (List.replicate (W * H) (0 : Int)).getD j 0 else 0) = 0
  cases s
  · rfl
  · rw [if_pos rfl, List.getD_eq_getElem?_getD]
    cases h : (List.replicate (W * H) (0 : Int))[j]? with
    | none => rfl
    | some z => exact (List.mem_replicate.1 (List.mem_of_getElem? h)).2
theorem clr0 (color : V4) (dep sten : Int) (c : Ce) (h : c.sten = 0) : clrC st0 7 color dep sten c = ⟨color.cl, clV dep, (byteN sten : Int)⟩ := by
  have hb : bits .or .i64 (bits .andNot .i64 c.sten 255) (bits .and .i64 sten 255) = (byteN sten : Int) := by
    have h1 := andNot8 0 255 (by decide) (by decide)
    have h2 := or8 0 (byteN sten) (by decide) (byteN_lt _)
    rw [h, and255, show bits .andNot .i64 (0 : Int) 255 = ((0 : Nat) : Int) from h1, h2]
    simp
  unfold clrC
  rw [if_pos (by decide), if_pos (by decide), if_pos (by decide)]
  congr 1
/-- The cell that is laid everywhere. -/
def onC (P : Pl) (color : V4) (dep sten : Int) : Ce := pkC P ⟨color.cl, clV dep, (byteN sten : Int)⟩
theorem in_all {W H x y : Nat} (hx : x < W) (hy : y < H) (hW : W ≤ 64) (hH : H ≤ 64) : inX ⟨0, 0, W, H⟩ x y = true := by
  unfold inX
  show (wiV x 0 W && wiV y 0 H) = true
  rw [wi_in (by omega) (by omega) (show 0 ≤ (W : Int) ∧ (W : Int) ≤ 9223372036854775807 by omega), wi_in (by omega) (by omega) (show 0 ≤ (H : Int) ∧ (H : Int) ≤ 9223372036854775807 by omega), Bool.and_eq_true]
  refine ⟨decide_eq_true ?_, decide_eq_true ?_⟩
  · show (0 : Int) ≤ (x : Int) ∧ (x : Int) - 0 < (W : Int)
    omega
  · show (0 : Int) ≤ (y : Int) ∧ (y : Int) - 0 < (H : Int)
    omega
theorem cleared_cell {W H F : Nat} {d s : Bool} (hok : (plZ W H F d s).Ok) (color : V4) (dep sten : Int) {j : Nat} (hj : j < W * H) : cellV (clrV st0 7 color dep sten (plZ W H F d s)) j = onC (plZ W H F d s) color dep sten := by
  have hw : 1 ≤ W := hok.w1
  have hx := Nat.mod_lt j hw
  have hy : j / W < H := Nat.div_lt_of_lt_mul hj
  rw [clrV_cell st0 7 color dep sten hok hj, if_pos (show inX (clrX st0 (plZ W H F d s)) (j % (plZ W H F d s).W) (j / (plZ W H F d s).W) = true from in_all hx hy hok.w2 hok.h2), clr0 _ _ _ _ (zero_sten _ _ _ _ _ _)]
  rfl
theorem const_at {G : List Int} (hG : G.length = 4) : ∀ (N i : Nat), i < N * 4 → ((List.range N).flatMap fun _ => G)[i]? = G[i % 4]?
  | 0, i, h => by omega
  | N + 1, i, h => by
    have hl : ((List.range N).flatMap fun _ => G).length = N * 4 := by
      rw [List.length_flatMap, List.map_const', List.sum_replicate_nat, List.length_range, hG]
    rw [List.range_succ, List.flatMap_append]
    by_cases hi : i < N * 4
    · rw [List.getElem?_append_left (by rw [hl]; exact hi)]
      exact const_at hG N i hi
    · rw [List.getElem?_append_right (by rw [hl]; omega), hl, List.flatMap_cons, List.flatMap_nil, List.append_nil]
      congr 1
      omega
theorem cleared_read {W H F : Nat} {d s : Bool} (hok : (plZ W H F d s).Ok) (color : V4) (dep sten : Int) :
    (rdV (clrV st0 7 color dep sten (plZ W H F d s)) 0 0 W H).length = 4 * W * H ∧ ∀ i, i < 4 * W * H → (rdV (clrV st0 7 color dep sten (plZ W H F d s)) 0 0 W H)[i]? = (lowB (packX 1 (onC (plZ W H F d s) color dep sten).v.L) 4)[i % 4]? := by
  have hw : 1 ≤ W := hok.w1
  obtain ⟨h1, h2⟩ := rdV_eq (clrV_ok st0 7 color dep sten hok) (x := 0) (y := 0) (w := W) (h := H) (by omega) (by omega) hok.w2 hok.h2
  obtain ⟨dW, dH, _⟩ := clrV_dim st0 7 color dep sten (plZ W H F d s)
  have hg : ∀ n, n ∈ List.range (W * H) → grp (clrV st0 7 color dep sten (plZ W H F d s)) 0 0 W n = lowB (packX 1 (onC (plZ W H F d s) color dep sten).v.L) 4 := fun n hn => by
    have hn := List.mem_range.1 hn
    have hm := Nat.mod_lt n hw
    have hd : n / W < H := Nat.div_lt_of_lt_mul hn
    have hdm : n / W * W + n % W = n := by rw [Nat.mul_comm]; exact Nat.div_add_mod n W
    unfold grp
    rw [dW, dH]
    generalize n / W = a at *
    generalize n % W = b at *
    show (if inP W H (0 + (b : Int)) (0 + (a : Int)) = true then lowB (packX 1 (cellV _ ((0 + (a : Int)).toNat * W + (0 + (b : Int)).toNat)).v.L) 4 else [0, 0, 0, 0]) = _
    have e1 : (0 + (a : Int)).toNat = a := by omega
    have e2 : (0 + (b : Int)).toNat = b := by omega
    rw [if_pos (by unfold inP; rw [decide_eq_true (show 0 ≤ 0 + (b : Int) by omega), decide_eq_true (show 0 ≤ 0 + (a : Int) by omega), decide_eq_true (show 0 + (b : Int) < W by omega), decide_eq_true (show 0 + (a : Int) < H by omega)]; rfl), e1, e2, hdm, cleared_cell hok color dep sten hn]
  have e : rdV (clrV st0 7 color dep sten (plZ W H F d s)) 0 0 W H = (List.range (W * H)).flatMap fun _ => lowB (packX 1 (onC (plZ W H F d s) color dep sten).v.L) 4 := by
    rw [h1]
    rw [List.flatMap_def, List.flatMap_def]
    congr 1
    exact List.map_congr_left hg
  refine ⟨h2, fun i hi => ?_⟩
  rw [e]
  exact const_at (lowB_length _ _) _ _ (by have : 4 * W * H = W * H * 4 := by rw [Nat.mul_assoc, Nat.mul_comm]
                                           omega)
theorem onC_sten (P : Pl) (color : V4) (dep sten : Int) : (onC P color dep sten).sten = if P.sten then bits .and .i64 sten 255 else 0 := by
  show (if P.sten then (byteN sten : Int) % 256 else 0) = _
  have := byteN_lt sten
  rw [and255]
  split
  · omega
  · rfl
theorem onC_dep (P : Pl) (color : V4) (dep sten : Int) (h : P.dep = false) : (onC P color dep sten).dep = 65536 := by
  show (if P.dep then _ else (65536 : Int)) = _
  rw [h]
  rfl
end Go.Proofs.Ytgdcdkajicgliaa
namespace Go.Proofs.Ytgdcdkajicgliaa
open Go.RowKit
set_option linter.unusedVariables false
set_option maxRecDepth 100000
set_option linter.unusedSimpArgs false

section
attribute [local go_sem ↓] Ld_V4 St_V4 Ld_Ce St_Ce Ld_St Ld_Md St_Md eqC
set_option maxHeartbeats 8000000 in
theorem clears_walk (m : Md) (hw : R64 m.w) (hh : R64 m.h) (hf : R64 m.f) (color : V4) (sten : Int) (w : World) : Calls Try.prog 3 #[.agg m.C.toArray, .agg color.C.toArray, .int .i64 sten] w fun e w' => e = .returned (.bool true) ∧ Ext w w' := by
  have hWb := smN_bd m.w 6 (by decide)
  have hHb := smN_bd m.h 6 (by decide)
  have hFb := smN_bd m.f 4 (by decide)
  have HSM := Lib.hid (fun w => small_any { m with any := false } hw hh hf w)
  have hsm : smM { m with any := false } = ⟨smN m.w 6, smN m.h 6, smN m.f 4, m.dep, m.sten, false⟩ := rfl
  rw [hsm] at HSM
  generalize smN m.w 6 = W at *
  generalize smN m.h 6 = H at *
  generalize smN m.f 4 = F at *
  have hmay : mayV W H F = true := by simp [mayV]; omega
  have HN := Lib.hid (fun w => newp_any W H F m.dep m.sten w hmay)
  have hok := plZ_ok m.dep m.sten (show 1 ≤ W by omega) (show W ≤ 64 by omega) (show 1 ≤ H by omega) (show H ≤ 64 by omega) (show 1 ≤ F by omega) (show F ≤ 4 by omega)
  have HOK := Lib.hid hok
  have HC : Hid (∀ (B : Pb) (w : World), PlAt w B (plZ W H F m.dep m.sten) → Calls Try.prog 14 #[.pointer (some ⟨B.p, 0, none⟩), .agg st0.C.toArray, .int .i64 7, .agg color.C.toArray, .int .i32 color.a, .int .i64 sten] w fun e w' => e = .returned (.int .i64 0) ∧ PlAt w' B (clrV st0 7 color color.a sten (plZ W H F m.dep m.sten)) ∧ Chg [B.c, B.d, B.m] w w') := Lib.hid fun B w h => clear_any B _ st0 7 color.a sten color st0_ok (by decide) w h
  obtain ⟨dW, dH, dF, dd, ds⟩ := clrV_dim st0 7 color color.a sten (plZ W H F m.dep m.sten)
  have dW : (clrV st0 7 color color.a sten (plZ W H F m.dep m.sten)).W = W := dW
  have dH : (clrV st0 7 color color.a sten (plZ W H F m.dep m.sten)).H = H := dH
  have HCELL : Hid (∀ (B : Pb) (x y : Nat), x < W → y < H → ∀ w, PlAt w B (clrV st0 7 color color.a sten (plZ W H F m.dep m.sten)) → Calls Try.prog 16 #[.pointer (some ⟨B.p, 0, none⟩), .int .i64 x, .int .i64 y] w fun e w' => e = .returned (.tuple #[.agg (onC (plZ W H F m.dep m.sten) color color.a sten).C.toArray, .int .i64 0]) ∧ Ext w w') := Lib.hid fun B x y hx hy w h => by
    have := cellp_in B _ x y (by rw [dW]; exact hx) (by rw [dH]; exact hy) w h
    rw [dW, cleared_cell hok color color.a sten (place_lt hx hy)] at this
    exact this
  have HREAD : Hid (∀ (B : Pb) w, PlAt w B (clrV st0 7 color color.a sten (plZ W H F m.dep m.sten)) → Calls Try.prog 17 #[.pointer (some ⟨B.p, 0, none⟩), .int .i64 0, .int .i64 0, .int .i64 W, .int .i64 H] w fun e w' => ∃ g, e = .returned (.tuple #[.slice (some ⟨g, 0, none⟩) (4 * W * H) (4 * W * H), .int .i64 0]) ∧ w.heap.size ≤ g ∧ w'.heap[g]? = some (.cells ((rdV (clrV st0 7 color color.a sten (plZ W H F m.dep m.sten)) 0 0 W H).map (Value.int .u8)).toArray 5 (0, 0)) ∧ Ext w w') := Lib.hid fun B w h => read_any B _ 0 0 W H (by omega) (by omega) (by omega) (by omega) w h
  have HRD := Lib.hid (cleared_read hok color color.a sten)
  have HST := Lib.hid (onC_sten (plZ W H F m.dep m.sten) color color.a sten)
  have HDP := Lib.hid (onC_dep (plZ W H F m.dep m.sten) color color.a sten)
  generalize clrV st0 7 color color.a sten (plZ W H F m.dep m.sten) = P1 at *
  generalize onC (plZ W H F m.dep m.sten) color color.a sten = CE at *
  clear hmay hok dW dH dF dd ds hsm hw hh hf
  go_enter Try.func3, Try.ntmps3
  go_upto_region 1 with fail
  obtain ⟨w0, hw0, h0, h1, hx0⟩ := heap2x w (.cells m.C.toArray 23) (.cells color.C.toArray 26)
  rw [hw0]
  obtain ⟨r, hr⟩ : ∃ r, w.heap.size = r := ⟨_, rfl⟩
  have HR := Lib.hid hr
  rw [hr] at h0 h1
  rw [hr]
  have HX0 := Lib.hid hx0
  have H0 : Hid (MdAt w0 r m) := Lib.hid h0
  have H1 : Hid (VAt w0 (r + 1) color) := Lib.hid h1
  clear h0 h1 hx0 hw0 hr
  go_upto_region 3 with (go_at_call 11; refine (wakes25_any _).mono ?_; rintro _ w1 ⟨rfl, hx1⟩)
  have HM1 := Lib.hid (H0.out.ext hx1)
  have HV1 := Lib.hid (H1.out.ext hx1)
  have HX1 := Lib.hid (HX0.out.trans hx1)
  have c5 : w1.cell? ⟨r, 5, none⟩ = some (.bool m.any) := cell_of_heap HM1.out rfl
  have f5 : w1.frozen? ⟨r, 5, none⟩ = false := free_of_heap HM1.out
  have n1 := heap_lt HM1.out
  clear hx1 H0 H1 HX0
  go_upto_region 4 with fail
  have hs2 := heap_set (k := 5) (u := .bool false) HM1.out
  obtain ⟨w2, hw2⟩ : ∃ w2, w1.setCell ⟨r, 5, none⟩ (.bool false) = w2 := ⟨_, rfl⟩
  have hc2 : Chg [r] w1 w2 := by rw [← hw2]; exact (Chg.refl _ _).setCell (p := ⟨r, 5, none⟩) (by simp) _
  rw [hw2] at hs2
  rw [hw2]
  have hm2 : MdAt w2 r { m with any := false } := hs2
  have HM2 := Lib.hid hm2
  have HV2 := Lib.hid (HV1.out.chg hc2 (by simp))
  have HX2 : Hid (Ext w w2) := Lib.hid (HX1.out.chgTrans hc2 (by rw [HR.out]; simp))
  have l2 := hm2.load
  have n2 := heap_lt hm2
  clear hw2 hs2 hc2 hm2 c5 f5 n1 HM1 HV1 HX1
  go_upto_region 5 with (go_at_call 12; refine (HSM.out _).mono ?_; rintro _ w3 ⟨rfl, hx3⟩; obtain ⟨t1, t2, t3⟩ := (HM2.out.ext hx3).store ⟨W, H, F, m.dep, m.sten, false⟩; have n3 := heap_lt (HM2.out.ext hx3))
  obtain ⟨w4, hw4⟩ : ∃ w4, w3.setCells r 0 (⟨W, H, F, m.dep, m.sten, false⟩ : Md).C = w4 := ⟨_, rfl⟩
  rw [hw4] at t2 t3
  rw [hw4]
  have HM4 := Lib.hid t2
  have HV4 := Lib.hid ((HV2.out.ext hx3).chg t3 (by simp))
  have HX4 : Hid (Ext w w4) := Lib.hid ((HX2.out.trans hx3).chgTrans t3 (by rw [HR.out]; simp))
  have d0 : w4.cell? ⟨r, 0, none⟩ = some (.int .i64 W) := cell_of_heap t2 rfl
  have d1 : w4.cell? ⟨r, 1, none⟩ = some (.int .i64 H) := cell_of_heap t2 rfl
  have d2 : w4.cell? ⟨r, 2, none⟩ = some (.int .i64 F) := cell_of_heap t2 rfl
  have d3 : w4.cell? ⟨r, 3, none⟩ = some (.bool m.dep) := cell_of_heap t2 rfl
  have d4 : w4.cell? ⟨r, 4, none⟩ = some (.bool m.sten) := cell_of_heap t2 rfl
  have n4 := heap_lt t2
  clear hw4 t1 t2 t3 hx3 n3 l2 n2 HM2 HV2 HX2
  go_upto_region 6 with (go_at_call 13; refine (HN.out _).mono ?_; rintro _ w5 ⟨B, rfl, b1, b2, b3, b4, hp5, hx5⟩)
  have HP5 := Lib.hid hp5
  have HM5 := Lib.hid (HM4.out.ext hx5)
  have HV5 := Lib.hid (HV4.out.ext hx5)
  have HX5 := Lib.hid (HX4.out.trans hx5)
  have HB : Hid (w.heap.size ≤ B.p ∧ w.heap.size ≤ B.c ∧ w.heap.size ≤ B.d ∧ w.heap.size ≤ B.m ∧ r + 1 < B.c ∧ r + 1 < B.d ∧ r + 1 < B.m) := Lib.hid (by have := HX4.out.size; have := heap_lt HV4.out; omega)
  have lv := VAt.load2 HV5.out
  have lvd := VAt.load2 (HV5.out.ext (Ext.refl _).drew)
  have e0 : w5.cell? ⟨r + 1, 0, none⟩ = some (.int .i32 color.a) := cell_of_heap HV5.out rfl
  have n5 := heap_lt HV5.out
  clear hp5 hx5 b1 b2 b3 b4 d0 d1 d2 d3 d4 n4 HM4 HV4 HX4
  go_region_held3 (fun w' => (@Classical.epsilon _ neV (LdP 26 (.pointer (some ⟨r + 1, 0, none⟩)))).run Try.prog w' = .ok (.agg color.C.toArray) w' ∧ w'.cell? ⟨r + 1, 0, none⟩ = some (.int .i32 color.a)) (go_keep) (first
    | (go_at_call 15; refine (opsnew_any _).mono ?_; rintro _ w6 ⟨rfl, hx6⟩; have HV6 := Lib.hid ((HV5.out.ext (Ext.refl _).drew).ext hx6); have g1 := VAt.load2 HV6.out; have g2 : w6.cell? ⟨r + 1, 0, none⟩ = some (.int .i32 color.a) := cell_of_heap HV6.out rfl)
    | (go_at_call 14; refine (HC.out B _ ((HP5.out.ext (Ext.refl _).drew).ext hx6)).mono ?_; rintro _ w7 ⟨rfl, hp7, hc7⟩; have HV7 := Lib.hid (HV6.out.chg hc7 (by have := HB.out; simp; omega)); have g1 := VAt.load2 HV7.out; have g2 : w7.cell? ⟨r + 1, 0, none⟩ = some (.int .i32 color.a) := cell_of_heap HV7.out rfl))
  have HP7 := Lib.hid hp7
  have HX7 : Hid (Ext w w7) := Lib.hid ((HX5.out.drew.trans hx6).chgTrans hc7 (by have := HB.out; simp; omega))
  have HM7 : Hid (MdAt w7 r ⟨W, H, F, m.dep, m.sten, false⟩) := Lib.hid (((HM5.out.ext (Ext.refl _).drew).ext hx6).chg hc7 (by have := HB.out; simp; omega))
  clear hp7 hc7 hx6 HV6 HV7 g1 g2 lv lvd e0 n5 HM5 HV5 HP5 HX5
  go_upto_region 9 with (go_at_call 16; refine (HCELL.out B 0 0 (by have := HOK.out.w1; exact this) (by have := HOK.out.h1; exact this) _ HP7.out).mono ?_; rintro _ w8 ⟨rfl, hx8⟩; obtain ⟨w9, hst9, h9, hx9⟩ := newC w8 CE)
  have HP9 := Lib.hid ((HP7.out.ext hx8).ext hx9)
  have HX9 := Lib.hid (HX7.out.trans (hx8.trans hx9))
  have HM9 := Lib.hid ((HM7.out.ext hx8).ext hx9)
  have HC9 := Lib.hid h9
  obtain ⟨bc, hbc⟩ : ∃ bc, w8.heap.size = bc := ⟨_, rfl⟩
  rw [hbc] at HC9
  rw [hbc]
  have d1 : w9.cell? ⟨r, 1, none⟩ = some (.int .i64 H) := cell_of_heap HM9.out rfl
  have n9 := heap_lt HM9.out
  clear h9 hx8 hx9 hst9 hbc HP7 HX7 HM7
  go_wp2_with fail
  go_loopw [56] (fun i wr => ∃ y : Nat, y ≤ H ∧ i = .int .i64 y ∧ Hid (Ext w9 wr)) (fun i _ => (H - (intOf i).toNat))
  case atStart => exact ⟨0, Nat.zero_le _, rfl, Lib.hid (Ext.refl _)⟩
  case round =>
    rename World => wr
    obtain ⟨y, hy, rfl, HXR⟩ := hrel
    have d0 : wr.cell? ⟨r, 0, none⟩ = some (.int .i64 W) := cell_of_heap (HM9.out.ext HXR.out) rfl
    have nr := heap_lt (HM9.out.ext HXR.out)
    by_cases hlt : y < H
    · have hyi : (y : Int) < (H : Int) := by omega
      go_wp2_with fail
      go_loopw [61] (fun i wq => ∃ x : Nat, x ≤ W ∧ i = .int .i64 x ∧ Hid (Ext w9 wq)) (fun i _ => (W - (intOf i).toNat))
      case atStart => exact ⟨0, Nat.zero_le _, rfl, HXR⟩
      case round =>
        rename World => wq
        obtain ⟨x, hx, rfl, HXQ⟩ := hrel
        by_cases hlx : x < W
        · have hxi : (x : Int) < (W : Int) := by omega
          go_upto_region 18 with (go_at_call 16; refine (HCELL.out B x y hlx hlt _ (HP9.out.ext HXQ.out)).mono ?_; rintro _ w10 ⟨rfl, hx10⟩; obtain ⟨w11, hst11, h11, hx11⟩ := newC w10 CE)
          have HX11 := Lib.hid (HXQ.out.trans (hx10.trans hx11))
          have l11 := CAt.load2 h11
          have n11 := heap_lt h11
          have l9 := CAt.load2 (HC9.out.ext HX11.out)
          have n12 := heap_lt (HC9.out.ext HX11.out)
          clear h11 hx10 hx11 hst11
          go_wp2_with fail
          go_roundw
          case rel => exact ⟨x + 1, by omega, by go_num, HX11⟩
          case measure => simp [intOf]; omega
        · obtain rfl : x = W := by omega
          go_wp2_with fail
          go_roundw
          case rel => exact ⟨y + 1, by omega, by go_num, HXQ⟩
          case measure => simp [intOf]; omega
    · obtain rfl : y = H := by omega
      have d1 : wr.cell? ⟨r, 1, none⟩ = some (.int .i64 y) := cell_of_heap (HM9.out.ext HXR.out) rfl
      go_upto_region 23 with (go_at_call 17; refine (HREAD.out B _ (HP9.out.ext HXR.out)).mono ?_; rintro _ w12 ⟨g, rfl, hg, hgh, hx12⟩)
      have HX12 := Lib.hid (HXR.out.trans hx12)
      have HM12 := Lib.hid (HM9.out.ext HX12.out)
      have HC12 := Lib.hid (HC9.out.ext HX12.out)
      obtain ⟨N, hN⟩ : ∃ N, 4 * W * y = N := ⟨_, rfl⟩
      have hNb : N ≤ 256 := by
        have := Nat.mul_le_mul (show 4 * W ≤ 24 by omega) (show y ≤ 6 by omega)
        omega
      rw [hN] at HRD
      rw [hN]
      obtain ⟨A4, hA4⟩ : ∃ A4, 4 * W = A4 := ⟨_, rfl⟩
      have s1 : IntKind.i64.wrap (4 * (W : Int)) = (A4 : Int) := by rw [← hA4, Int.natCast_mul]; exact IntWalk.i64_in _ (by omega)
      have s2 : IntKind.i64.wrap ((A4 : Int) * (y : Int)) = (N : Int) := by rw [← Int.natCast_mul, ← hA4, hN]; exact IntWalk.i64_in _ (by omega)
      have HG := Lib.hid hgh
      have d0 : w12.cell? ⟨r, 0, none⟩ = some (.int .i64 W) := cell_of_heap HM12.out rfl
      have d1' : w12.cell? ⟨r, 1, none⟩ = some (.int .i64 y) := cell_of_heap HM12.out rfl
      have n12 := heap_lt HM12.out
      clear hgh hg hx12 hA4 hN d1 nr
      go_wp2_with fail
      clear s1 s2 d0 d1' n12
      go_loopw [104] (fun i wq => ∃ k : Nat, k ≤ N ∧ i = .int .i64 k ∧ Hid (Ext w12 wq)) (fun i _ => (N - (intOf i).toNat))
      case atStart => exact ⟨0, Nat.zero_le _, rfl, Lib.hid (Ext.refl _)⟩
      case round =>
        rename World => wq
        obtain ⟨k, hk, rfl, HXQ⟩ := hrel
        by_cases hlk : k < N
        · have hki : (k : Int) < (N : Int) := by omega
          have hgq := HXQ.out.heap HG.out
          obtain ⟨q, hq⟩ : ∃ q, k % 4 = q := ⟨_, rfl⟩
          have hqN : q < N := by omega
          have hr1 := HRD.out.2 k hlk
          have hr2 := HRD.out.2 q hqN
          rw [show q % 4 = q by omega] at hr2
          rw [hq] at hr1
          obtain ⟨z, hz⟩ : ∃ z, (rdV P1 0 0 W y)[k]? = some z := ⟨_, List.getElem?_eq_getElem (by have := HRD.out.1; omega)⟩
          have hzq : (rdV P1 0 0 W y)[q]? = some z := hr2.trans (hr1.symm.trans hz)
          have e1 : wq.cell? ⟨g, k, none⟩ = some (.int .u8 z) := cell_of_heap hgq (by rw [List.getElem?_toArray, List.getElem?_map, hz]; rfl)
          have e2 : wq.cell? ⟨g, q, none⟩ = some (.int .u8 z) := cell_of_heap hgq (by rw [List.getElem?_toArray, List.getElem?_map, hzq]; rfl)
          have ng := heap_lt hgq
          have m1 : (k : Int) % 4 = (q : Int) := by omega
          have m2 : (k : Int).tmod 4 = (q : Int) := by rw [Int.tmod_eq_emod_of_nonneg (by omega)]; exact m1
          have q0 : (0 : Int) ≤ (q : Int) := by omega
          have q1 : (q : Int) < (N : Int) := by omega
          have k0 : (0 : Int) ≤ (k : Int) := by omega
          clear hr1 hr2 hz hzq hgq hq hqN
          go_wp2_with fail
          go_quiet (fail)
          go_wp2_with fail
          go_roundw
          case rel => exact ⟨k + 1, by omega, by go_num, Lib.hid (HXQ.out.drewN _)⟩
          case measure => simp [intOf]; omega
        · obtain rfl : k = N := by omega
          have hmq := HM12.out.ext HXQ.out
          have hcq := HC12.out.ext HXQ.out
          have a3 : wq.cell? ⟨r, 3, none⟩ = some (.bool m.dep) := cell_of_heap hmq rfl
          have a4 : wq.cell? ⟨r, 4, none⟩ = some (.bool m.sten) := cell_of_heap hmq rfl
          have b4 : wq.cell? ⟨bc, 4, none⟩ = some (.int .i32 CE.dep) := cell_of_heap hcq rfl
          have b5 : wq.cell? ⟨bc, 5, none⟩ = some (.int .i64 CE.sten) := cell_of_heap hcq rfl
          have na := heap_lt hmq
          have nb := heap_lt hcq
          have HE := Lib.hid (HX9.out.trans (HX12.out.trans HXQ.out))
          clear hmq hcq
          cases hst : m.sten
          · rw [hst] at a4
            cases hdp : m.dep
            · rw [hdp] at a3
              rw [show CE.dep = 65536 from HDP.out hdp] at b4
              go_wp2_with fail
              go_ret
              exact ⟨rfl, HE.out⟩
            · rw [hdp] at a3
              go_wp2_with fail
              go_ret
              exact ⟨rfl, HE.out⟩
          · rw [hst] at a4
            rw [show CE.sten = bits .and .i64 sten 255 from HST.out.trans (if_pos hst)] at b5
            obtain ⟨SV, hSV⟩ : ∃ SV, bits .and .i64 sten 255 = SV := ⟨_, rfl⟩
            rw [hSV] at b5
            cases hdp : m.dep
            · rw [hdp] at a3
              rw [show CE.dep = 65536 from HDP.out hdp] at b4
              go_wp2_with fail
              go_ret
              exact ⟨rfl, HE.out⟩
            · rw [hdp] at a3
              go_wp2_with fail
              go_ret
              exact ⟨rfl, HE.out⟩
end
theorem clears_arg (W : World) (v0 v1 v2 : Value) (h0 : ArgIs Try.prog W 23 v0) (h1 : ArgIs Try.prog W 26 v1) (h2 : ArgIs Try.prog W 3 v2) : Calls Try.prog 3 #[v0, v1, v2] W fun e w' => e = .returned (.bool true) ∧ Ext W w' := by
  obtain ⟨m, rfl, hw, hh, hf⟩ := mdIn h0
  obtain ⟨cs, rfl, g0⟩ := h1.agg 4 (ls := [.int .i32, .int .i32, .int .i32, .int .i32]) (by kernel_rfl) (by kernel_rfl) (by kernel_rfl)
  obtain ⟨u0, us0, rfl, ⟨a, rfl, _⟩, g1⟩ := g0.cons_inv
  obtain ⟨u1, us1, rfl, ⟨b, rfl, _⟩, g2⟩ := g1.cons_inv
  obtain ⟨u2, us2, rfl, ⟨c, rfl, _⟩, g3⟩ := g2.cons_inv
  obtain ⟨u3, us3, rfl, ⟨d, rfl, _⟩, g4⟩ := g3.cons_inv
  obtain rfl := g4.nil_inv
  obtain ⟨x, rfl, _⟩ := h2.int Try.underlying3
  exact clears_walk m hw hh hf ⟨a, b, c, d⟩ x W
end Go.Proofs.Ytgdcdkajicgliaa
