/- The walk of FrameKeeps. Conditions: each theorem's own premises. -/
import Derived.Test.YtgdcdkajicgliaaFraB
import Derived.Deep.RegionHeld3
import Derived.Deep.DeepCutAuto
import Derived.Deep.CutBlock
namespace Go.Proofs.Ytgdcdkajicgliaa
open Go.RowKit
set_option linter.unusedVariables false
set_option maxRecDepth 100000
set_option linter.unusedSimpArgs false

theorem OpAt.chg' {M : List Nat} {w w' : World} {b : Nat} {o : Opn} (h : OpAt w b o) (x : Chg M w w') (hm : b ∉ M) : OpAt w' b o := x.heap h hm
theorem Chg.new {M N : List Nat} {a b c : World} (h : Chg M a b) (k : Chg N b c) (hN : ∀ i, i ∈ N → a.heap.size ≤ i) : Chg M a c :=
  ⟨k.os.trans h.os, k.tape.trans h.tape, k.output.trans h.output, Nat.le_trans h.size k.size, fun i hi hm => (k.block i (Nat.lt_of_lt_of_le hi h.size) (fun hn => by have := hN i hn; omega)).trans (h.block i hi hm)⟩
/-- What holds between two calls. -/
def KInv (B : Pb) (W H : Nat) (w5 wr : World) : Prop := ∃ P, PlAt wr B P ∧ P.W = W ∧ P.H = H ∧ Chg [B.c, B.d, B.m] w5 wr
section
attribute [local go_sem ↓] Ld_V4 St_V4 Ld_Ce St_Ce Ld_St Ld_Md St_Md Ld_Op St_Op eqC
set_option maxHeartbeats 8000000 in
theorem keeps_walk (m : Md) (hw : R64 m.w) (hh : R64 m.h) (hf : R64 m.f) (v : Value) (L : List Opn) (hwf : ∀ o ∈ L, o.Wf) (w : World) (hL : OpsAt w v L) : Calls Try.prog 4 #[.agg m.C.toArray, v] w fun e w' => e = .returned (.bool true) ∧ Ext w w' := by
  have hWb := smN_bd m.w 6 (by decide)
  have hHb := smN_bd m.h 6 (by decide)
  have hFb := smN_bd m.f 4 (by decide)
  have HSM := Lib.hid (fun w => small_any { m with any := false } hw hh hf w)
  have hsm : smM { m with any := false } = ⟨smN m.w 6, smN m.h 6, smN m.f 4, m.dep, m.sten, false⟩ := rfl
  rw [hsm] at HSM
  generalize smN m.w 6 = W at *
  generalize smN m.h 6 = H at *
  generalize smN m.f 4 = F at *
  have hmay : mayV W H F = true := by simp [mayV]; omega
  have HN := Lib.hid (fun w => newp_any W H F m.dep m.sten w hmay)
  have HL := Lib.hid hL
  have HWF := Lib.hid hwf
  obtain ⟨av, cap, rfl, hcm⟩ : ∃ av cap, v = .slice av L.length cap ∧ L.length ≤ 9223372036854775807 := by
    obtain ⟨_, a, cap, rfl, h1, h2, _⟩ := hL
    exact ⟨a, cap, rfl, by unfold maxLen at h2; omega⟩
  clear hmay hsm hw hh hf hL hwf
  go_enter Try.func4, Try.ntmps4
  go_upto_region 1 with fail
  obtain ⟨w0, hw0, h0, hx0⟩ : ∃ w0, w.alloc (.cells m.C.toArray 23) = w0 ∧ MdAt w0 w.heap.size m ∧ Ext w w0 := ⟨_, rfl, heap_alloc_new _ _, (Ext.refl _).alloc _⟩
  rw [hw0]
  obtain ⟨r, hr⟩ : ∃ r, w.heap.size = r := ⟨_, rfl⟩
  have HR := Lib.hid hr
  rw [hr] at h0
  rw [hr]
  have HX0 := Lib.hid hx0
  have H0 := Lib.hid h0
  clear h0 hx0 hw0 hr
  go_upto_region 3 with (go_at_call 11; refine (wakes25_any _).mono ?_; rintro _ w1 ⟨rfl, hx1⟩)
  have HM1 := Lib.hid (H0.out.ext hx1)
  have HX1 := Lib.hid (HX0.out.trans hx1)
  have c5 : w1.cell? ⟨r, 5, none⟩ = some (.bool m.any) := cell_of_heap HM1.out rfl
  have f5 : w1.frozen? ⟨r, 5, none⟩ = false := free_of_heap HM1.out
  have n1 := heap_lt HM1.out
  clear hx1 H0 HX0
  go_upto_region 4 with fail
  have hs2 := heap_set (k := 5) (u := .bool false) HM1.out
  obtain ⟨w2, hw2⟩ : ∃ w2, w1.setCell ⟨r, 5, none⟩ (.bool false) = w2 := ⟨_, rfl⟩
  have hc2 : Chg [r] w1 w2 := by rw [← hw2]; exact (Chg.refl _ _).setCell (p := ⟨r, 5, none⟩) (by simp) _
  rw [hw2] at hs2
  rw [hw2]
  have hm2 : MdAt w2 r { m with any := false } := hs2
  have HM2 := Lib.hid hm2
  have HX2 : Hid (Ext w w2) := Lib.hid (HX1.out.chgTrans hc2 (by rw [HR.out]; simp))
  have l2 := hm2.load
  have n2 := heap_lt hm2
  clear hw2 hs2 hc2 hm2 c5 f5 n1 HM1 HX1
  go_upto_region 5 with (go_at_call 12; refine (HSM.out _).mono ?_; rintro _ w3 ⟨rfl, hx3⟩; obtain ⟨t1, t2, t3⟩ := (HM2.out.ext hx3).store ⟨W, H, F, m.dep, m.sten, false⟩; have n3 := heap_lt (HM2.out.ext hx3))
  obtain ⟨w4, hw4⟩ : ∃ w4, w3.setCells r 0 (⟨W, H, F, m.dep, m.sten, false⟩ : Md).C = w4 := ⟨_, rfl⟩
  rw [hw4] at t2 t3
  rw [hw4]
  have HM4 := Lib.hid t2
  have HX4 : Hid (Ext w w4) := Lib.hid ((HX2.out.trans hx3).chgTrans t3 (by rw [HR.out]; simp))
  have d0 : w4.cell? ⟨r, 0, none⟩ = some (.int .i64 W) := cell_of_heap t2 rfl
  have d1 : w4.cell? ⟨r, 1, none⟩ = some (.int .i64 H) := cell_of_heap t2 rfl
  have d2 : w4.cell? ⟨r, 2, none⟩ = some (.int .i64 F) := cell_of_heap t2 rfl
  have d3 : w4.cell? ⟨r, 3, none⟩ = some (.bool m.dep) := cell_of_heap t2 rfl
  have d4 : w4.cell? ⟨r, 4, none⟩ = some (.bool m.sten) := cell_of_heap t2 rfl
  have n4 := heap_lt t2
  clear hw4 t1 t2 t3 hx3 n3 l2 n2 HM2 HX2
  go_upto_region 6 with (go_at_call 13; refine (HN.out _).mono ?_; rintro _ w5 ⟨B, rfl, b1, b2, b3, b4, hp5, hx5⟩)
  have HM5 := Lib.hid (HM4.out.ext hx5)
  have HX5 := Lib.hid (HX4.out.trans hx5)
  have HB : Hid (w.heap.size ≤ B.p ∧ w.heap.size ≤ B.c ∧ w.heap.size ≤ B.d ∧ w.heap.size ≤ B.m ∧ r < B.p ∧ r < B.c ∧ r < B.d ∧ r < B.m ∧ B.p < w5.heap.size ∧ B.c < w5.heap.size ∧ B.d < w5.heap.size ∧ B.m < w5.heap.size) := Lib.hid (by have := HX4.out.size; have := heap_lt HM4.out; have := heap_lt hp5.p; have := heap_lt hp5.c; have := heap_lt hp5.d; have := heap_lt hp5.m; omega)
  have HI5 : Hid (KInv B W H w5 w5) := Lib.hid ⟨_, hp5, rfl, rfl, Chg.refl _ _⟩
  clear hp5 hx5 b1 b2 b3 b4 d0 d1 d2 d3 d4 n4 HM4 HX4 HN HSM
  go_upto_block 0 with fail
  go_cut [] from 47 to 125 (fun wc => Hid (KInv B W H w5 wc))
  case first =>
    go_wp2_with fail
    go_loopw [47] (fun i wr => ∃ k : Nat, k ≤ L.length ∧ i = .int .i64 k ∧ Hid (KInv B W H w5 wr)) (fun i _ => (L.length - (intOf i).toNat))
    case atStart => exact ⟨0, Nat.zero_le _, rfl, HI5⟩
    case round =>
      rename World => wr
      obtain ⟨k, hk, rfl, HI⟩ := hrel
      by_cases hlt : k < L.length
      · have hki : (k : Int) < (L.length : Int) := by omega
        obtain ⟨P, hp, hW, hH, hch⟩ := HI.out
        have HP := Lib.hid hp
        have HXR : Hid (Ext w wr) := Lib.hid (HX5.out.chgTrans hch (by have := HB.out; simp; omega))
        have HCH := Lib.hid hch
        have HM := Lib.hid (HM5.out.chg hch (by have := HB.out; simp; omega))
        obtain ⟨o, ho⟩ : ∃ o, L[k]? = some o := ⟨_, List.getElem?_eq_getElem hlt⟩
        have HOW := Lib.hid (HWF.out o (List.mem_of_getElem? ho))
        obtain ⟨b, off, rfl, hb, hld⟩ := (HL.out.ext HXR.out).load ho
        obtain ⟨w6, hst6, h6, hx6⟩ := newOp wr o HOW.out.vs
        have H6 := Lib.hid h6
        have HX6 := Lib.hid hx6
        have HDIM : Hid (P.W = W ∧ P.H = H) := Lib.hid ⟨hW, hH⟩
        clear hp hch h6 hx6 ho hW hH
        go_upto_region 11 with fail
        obtain ⟨bo, hbo⟩ : ∃ bo, wr.heap.size = bo := ⟨_, rfl⟩
        have HBO : Hid (wr.heap.size = bo) := Lib.hid hbo
        rw [hbo] at H6
        rw [hbo]
        clear hbo hld hst6 hb
        by_cases h20 : k = 20
        · subst h20
          go_wp2_with fail
          go_meet
          obtain ⟨P2, a1, a2, a3, a4⟩ := HI.out
          exact ⟨P2, a1.ext HX6.out, a2, a3, a4.ext2 HX6.out⟩
        · have hk20 : ((k : Int) == 20) = false := by simp; omega
          go_upto_region 12 with fail
          have HM6 := Lib.hid (HM.out.ext HX6.out)
          have d0 : w6.cell? ⟨r, 0, none⟩ = some (.int .i64 W) := cell_of_heap HM6.out rfl
          have d1 : w6.cell? ⟨r, 1, none⟩ = some (.int .i64 H) := cell_of_heap HM6.out rfl
          have c1 : w6.cell? ⟨bo, 1, none⟩ = some (.int .i64 o.x) := cell_of_heap H6.out rfl
          have c2 : w6.cell? ⟨bo, 2, none⟩ = some (.int .i64 o.y) := cell_of_heap H6.out rfl
          have n6 := heap_lt H6.out
          have nr6 := heap_lt HM6.out
          obtain ⟨X, hX⟩ : ∃ X, (max o.x 0).toNat % W = X := ⟨_, rfl⟩
          obtain ⟨Y, hY⟩ : ∃ Y, (max o.y 0).toNat % H = Y := ⟨_, rfl⟩
          have hXW : X < W := by rw [← hX]; exact Nat.mod_lt _ (by omega)
          have hYH : Y < H := by rw [← hY]; exact Nat.mod_lt _ (by omega)
          have m1 : (if o.x < 0 then (0 : Int) else o.x).tmod (W : Int) = (X : Int) := by
            have e : (if o.x < 0 then (0 : Int) else o.x) = ((max o.x 0).toNat : Int) := by omega
            rw [e, Int.tmod_eq_emod_of_nonneg (by omega), ← Int.natCast_emod, hX]
          have m2 : (if o.y < 0 then (0 : Int) else o.y).tmod (H : Int) = (Y : Int) := by
            have e : (if o.y < 0 then (0 : Int) else o.y) = ((max o.y 0).toNat : Int) := by omega
            rw [e, Int.tmod_eq_emod_of_nonneg (by omega), ← Int.natCast_emod, hY]
          have w0 : ¬ (W : Int) = 0 := by omega
          have w1 : ¬ (H : Int) = 0 := by omega
          clear hX hY
          have HXY : Hid (X < W ∧ Y < H) := Lib.hid ⟨hXW, hYH⟩
          go_quiet (fail)
          clear m1 m2
          generalize (if o.x < 0 then (0 : Int) else o.x) = zx
          generalize (if o.y < 0 then (0 : Int) else o.y) = zy
          obtain ⟨w7, hw7⟩ : ∃ w7, w6.drewN nq = w7 := ⟨_, rfl⟩
          have hx67 : Ext w6 w7 := by rw [← hw7]; exact (Ext.refl _).drewN _
          rw [hw7]
          have HP7 := Lib.hid ((HP.out.ext HX6.out).ext hx67)
          have H7 := Lib.hid (H6.out.ext hx67)
          have HM7 := Lib.hid (HM6.out.ext hx67)
          have HX7 := Lib.hid (HX6.out.trans hx67)
          clear hw7 hx67 w0 w1 c1 c2 d0 d1 n6 nr6 HP H6 HM6 HX6
          go_upto_region 14 with (go_at_call 18; refine (copyp_any B P _ HP7.out).mono ?_; rintro _ w8 ⟨B2, rfl, b1, b2, b3, b4, hp8, hx8⟩)
          have HB2 : Hid (w7.heap.size ≤ B2.p ∧ w7.heap.size ≤ B2.c ∧ w7.heap.size ≤ B2.d ∧ w7.heap.size ≤ B2.m ∧ B.c < w7.heap.size ∧ B.d < w7.heap.size ∧ B.m < w7.heap.size ∧ B.p < w7.heap.size ∧ bo < w7.heap.size ∧ r < w7.heap.size) := Lib.hid (by have := heap_lt HP7.out.p; have := heap_lt HP7.out.c; have := heap_lt HP7.out.d; have := heap_lt HP7.out.m; have := heap_lt H7.out; have := heap_lt HM7.out; omega)
          have HQ8 := Lib.hid hp8
          have HP8 := Lib.hid (HP7.out.ext hx8)
          have H8 := Lib.hid (H7.out.ext hx8)
          have HM8 := Lib.hid (HM7.out.ext hx8)
          have HX8 := Lib.hid (HX7.out.trans hx8)
          have HS8 := Lib.hid hx8.size
          have lc := H8.out.loadC
          have n8 := heap_lt H8.out
          clear hp8 hx8 b1 b2 b3 b4 HP7 H7 HM7 HX7
          cases hm : mayB o.ce
          · have HLB := Lib.hid (layp_bad B P X Y o.ce (by have := HXY.out; have := HDIM.out; omega) (by have := HXY.out; have := HDIM.out; omega) hm w8 HP8.out)
            clear hm
            go_wp2_with (go_at_call 19; refine HLB.out.mono ?_; rintro _ w9 ⟨rfl, hx9⟩)
            go_roundw
            case rel => exact ⟨k + 1, by omega, by go_num, Lib.hid ⟨P, HP8.out.ext hx9, HDIM.out.1, HDIM.out.2, HCH.out.ext2 (HX8.out.trans hx9)⟩⟩
            case measure => simp [intOf]; omega
          · have HLK := Lib.hid (layp_ok B P X Y o.ce (by have := HXY.out; have := HDIM.out; omega) (by have := HXY.out; have := HDIM.out; omega) hm w8 HP8.out)
            have HMB := Lib.hid hm
            clear hm
            go_upto_region 15 with (go_at_call 19; refine HLK.out.mono ?_; rintro _ w9 ⟨rfl, hp9, hc9⟩)
            have HP9 := Lib.hid hp9
            have HW9 : Hid (Chg [B.c, B.d, B.m] w5 w9) := Lib.hid ((HCH.out.ext2 HX8.out).trans hc9)
            have hB2 := HB2.out
            have HQ9 := Lib.hid (HQ8.out.chg hc9 (by simp; omega) (by simp; omega) (by simp; omega) (by simp; omega))
            have H9 := Lib.hid (H8.out.chg' hc9 (by simp; have := HBO.out; have := HB.out; have := HXR.out.size; have := HCH.out.size; omega))
            have HM9 := Lib.hid (HM8.out.chg hc9 (by have := HB.out; simp; omega))
            have HS9 := Lib.hid (Nat.le_trans HS8.out hc9.size)
            have hXY := HXY.out
            have hD := HDIM.out
            obtain ⟨X1, hX1⟩ : ∃ X1, X + 1 = X1 := ⟨_, rfl⟩
            obtain ⟨X2, hX2⟩ : ∃ X2, X1 % W = X2 := ⟨_, rfl⟩
            have hX2W : X2 < W := by rw [← hX2]; exact Nat.mod_lt _ (by omega)
            have s1 : IntKind.i64.wrap ((X : Int) + 1) = (X1 : Int) := by rw [← hX1]; exact IntWalk.i64_in _ ⟨by omega, by omega⟩
            have m3 : (X1 : Int).tmod (W : Int) = (X2 : Int) := by rw [Int.tmod_eq_emod_of_nonneg (by omega), ← Int.natCast_emod, hX2]
            have HL2 := Lib.hid (fun w' h => layp_ok B2 P X2 Y o.ce (show X2 < P.W by omega) (show Y < P.H by omega) HMB.out w' h)
            have v0 : ¬ (W : Int) = 0 := by omega
            have d0 : w9.cell? ⟨r, 0, none⟩ = some (.int .i64 W) := cell_of_heap HM9.out rfl
            have lc9 := H9.out.loadC
            have lc9d := (H9.out.ext (Ext.refl _).drew).loadC
            have n9 := heap_lt H9.out
            have nr9 := heap_lt HM9.out
            have HLB := Lib.hid hB2
            have m4 : ((X : Int) + 1).tmod (W : Int) = (X2 : Int) := by rw [← hX1] at m3; exact m3
            have v2 : (W : Int) ≤ 6 := by omega
            have v8 : ((W : Int) == 0) = false := by first | (simp; done) | (simp; omega)
            have v9 : ((W : Int) == -1) = false := by first | (simp; done) | (simp; omega)
            have v10 : ¬ (W : Int) = -1 := by omega
            have v11 : ¬ W = 0 := by omega
            have v3 : (0 : Int) ≤ (X2 : Int) := by omega
            have v4 : (X2 : Int) < (W : Int) := by omega
            have v5 : (0 : Int) ≤ (X1 : Int) := by omega
            have v6 : (X1 : Int) ≤ 6 := by omega
            have v7 : (0 : Int) < (W : Int) := by omega
            clear hp9 hc9 hB2 hXY hD hX1 hX2 lc n8 HQ8 HP8 H8 HM8 HLK
            go_region_held3 (fun w' => w'.cell? ⟨r, 0, none⟩ = some (.int .i64 W) ∧ (@Classical.epsilon _ neV (LdP 45 (.pointer (some ⟨bo, 5, none⟩)))).run Try.prog w' = .ok (.agg o.ce.C.toArray) w') (go_keep) ((go_at_call 19; refine (HL2.out _ (HQ9.out.ext (Ext.refl _).drew)).mono ?_; rintro _ w10 ⟨rfl, _, hc10⟩; have g1 := hc10.cell (show (⟨r, 0, none⟩ : Addr).block ∉ [B2.c, B2.d, B2.m] by have := HLB.out; simp; omega) d0; have g2 := (H9.out.chg' (((Ext.refl w9).drew.chg _).trans hc10) (by have := HLB.out; simp; omega)).loadC))
            obtain ⟨Q, hQ⟩ : ∃ Q, layV P (Y * P.W + X) o.ce = Q := ⟨_, rfl⟩
            have HQD : Hid (Q.W = W ∧ Q.H = H) := Lib.hid (by rw [← hQ]; exact HDIM.out)
            have HS59 : Hid (w5.heap.size ≤ w7.heap.size) := Lib.hid (by have := HCH.out.size; have := HX8.out.size; have := HLB.out; have := HBO.out; have := HB.out; have e := HP9.out; omega)
            have HP10 : Hid (PlAt w10 B Q) := Lib.hid (by rw [← hQ]; exact (HP9.out.ext (Ext.refl _).drew).chg hc10 (by have := HLB.out; simp; omega) (by have := HLB.out; simp; omega) (by have := HLB.out; simp; omega) (by have := HLB.out; simp; omega))
            have HW10 : Hid (Chg [B.c, B.d, B.m] w5 w10) := Lib.hid ((HW9.out.ext2 (Ext.refl _).drew).new hc10 (by have := HLB.out; have := HS59.out; simp; omega))
            clear hc10 g1 g2 lc9 lc9d d0 n9 nr9 s1 m3 m4 v0 v2 v3 v4 v5 v6 v7 v8 v9 v10 v11
            obtain ⟨j, hj⟩ : ∃ j, Y * Q.W + X = j := ⟨_, rfl⟩
            obtain ⟨ce, hce⟩ : ∃ ce, cellV Q j = ce := ⟨_, rfl⟩
            have hXY := HXY.out
            have hD := HQD.out
            have hjl : j < Q.W * Q.H := by rw [← hj]; exact place_lt (by omega) (by omega)
            have HCL : Hid (∀ w', PlAt w' B Q → Calls Try.prog 16 #[.pointer (some ⟨B.p, 0, none⟩), .int .i64 X, .int .i64 Y] w' fun e w'' => e = .returned (.tuple #[.agg ce.C.toArray, .int .i64 0]) ∧ Ext w' w'') := Lib.hid fun w' h => by
              have := cellp_in B Q X Y (by omega) (by omega) w' h
              rw [hj, hce] at this
              exact this
            have HLK : Hid (∀ w', PlAt w' B Q → Calls Try.prog 19 #[.pointer (some ⟨B.p, 0, none⟩), .int .i64 X, .int .i64 Y, .agg ce.C.toArray] w' fun e w'' => e = .returned (.int .i64 0) ∧ PlAt w'' B Q ∧ Chg [B.c, B.d, B.m] w' w'') := Lib.hid fun w' h => by
              have := layp_ok B Q X Y ce (by omega) (by omega) (by rw [← hce]; exact may_cell h.ok hjl) w' h
              rw [hj, ← hce, lay_back h.ok hjl, hce] at this
              exact this
            clear hQ hj hce hXY hD hjl
            go_upto_region 17 with (go_at_call 16; refine (HCL.out _ HP10.out).mono ?_; rintro _ w11 ⟨rfl, hx11⟩; obtain ⟨w12, hst12, h12, hx12⟩ := newC w11 ce)
            have HP12 := Lib.hid (HP10.out.ext (hx11.trans hx12))
            have HW12 := Lib.hid (HW10.out.ext2 (hx11.trans hx12))
            have HC12 := Lib.hid h12
            have HS12 : Hid (w11.heap.size ∉ [B.c, B.d, B.m] ∧ B.c < w11.heap.size ∧ B.d < w11.heap.size ∧ B.m < w11.heap.size) := Lib.hid (by have := HB.out; have := HW10.out.size; have := hx11.size; simp; omega)
            obtain ⟨bc, hbc⟩ : ∃ bc, w11.heap.size = bc := ⟨_, rfl⟩
            rw [hbc] at HC12 HS12
            rw [hbc]
            clear h12 hx11 hx12 hst12 hbc HP10 HW10
            go_upto_region 18 with (go_at_call 20; refine (bytesp_any B Q _ HP12.out).mono ?_; rintro _ w13 ⟨a3, k3, rfl, hi13, hb13, hx13⟩)
            have HP13 := Lib.hid (HP12.out.ext hx13)
            have HW13 := Lib.hid (HW12.out.ext2 hx13)
            have HC13 := Lib.hid (HC12.out.ext hx13)
            have HI13 := Lib.hid hi13
            have HB13 : Hid (∀ b, (Value.slice a3 Q.col.length k3).ownBlock = some b → b ∉ [B.c, B.d, B.m]) := Lib.hid fun b hb => by have := hb13 b hb; have := HP12.out; have := heap_lt this.c; have := heap_lt (HP12.out).d; have := heap_lt (HP12.out).m; simp; omega
            have l13 := CAt.load2 HC13.out
            have n13 := heap_lt HC13.out
            clear hi13 hb13 hx13 HP12 HW12 HC12
            go_upto_region 20 with (first
              | (go_at_call 19; refine (HLK.out _ HP13.out).mono ?_; rintro _ w14 ⟨rfl, hp14, hc14⟩)
              | (go_at_call 20; refine (bytesp_any B Q _ hp14).mono ?_; rintro _ w15 ⟨a5, k5, rfl, hi15, _, hx15⟩)
              | (go_at_call 21; refine (equal_any _ _ Q.col _ hi15 ((HI13.out.chg hc14 (fun b hb _ => HB13.out b hb)).ext hx15)).mono ?_; rintro _ _ ⟨rfl, rfl⟩))
            have HP15 := Lib.hid (hp14.ext hx15)
            have HW15 := Lib.hid ((HW13.out.trans hc14).ext2 hx15)
            have HC15 := Lib.hid ((HC13.out.chg hc14 HS12.out.1).ext hx15)
            clear hp14 hc14 hx15 hi15 l13 n13 HP13 HW13 HC13 HI13 HB13
            go_upto_region 21 with (go_at_call 16; refine (HCL.out _ HP15.out).mono ?_; rintro _ w16 ⟨rfl, hx16⟩; obtain ⟨w17, hst17, h17, hx17⟩ := newC w16 ce)
            have HP17 := Lib.hid (HP15.out.ext (hx16.trans hx17))
            have HW17 := Lib.hid (HW15.out.ext2 (hx16.trans hx17))
            have hc17 := HC15.out.ext (hx16.trans hx17)
            have l17 := CAt.load2 h17
            have n17 := heap_lt h17
            have l18 := CAt.load2 hc17
            have n18 := heap_lt hc17
            clear hc17 h17 hx16 hx17 hst17 HP15 HW15
            go_wp2_with fail
            go_roundw
            case rel => exact ⟨k + 1, by omega, by go_num, Lib.hid ⟨Q, HP17.out, HQD.out.1, HQD.out.2, HW17.out⟩⟩
            case measure => simp [intOf]; omega
      · obtain rfl : k = L.length := by omega
        go_wp2_with fail
        go_meet
        exact HI
  case rest =>
    obtain ⟨P, hp, hW, hH, hch⟩ := hcut.out
    have HP := Lib.hid hp
    have HXR : Hid (Ext w wc) := Lib.hid (HX5.out.chgTrans hch (by have := HB.out; simp; omega))
    have HM := Lib.hid (HM5.out.chg hch (by have := HB.out; simp; omega))
    have HDIM : Hid (P.W = W ∧ P.H = H) := Lib.hid ⟨hW, hH⟩
    have HSZ : Hid (w5.heap.size ≤ wc.heap.size) := Lib.hid hch.size
    clear hp hch hW hH hcut HI5
    go_upto_region 25 with (go_at_call 18; refine (copyp_any B P _ HP.out).mono ?_; rintro _ w8 ⟨B2, rfl, b1, b2, b3, b4, hp8, hx8⟩)
    have HQ8 := Lib.hid hp8
    have HP8 := Lib.hid (HP.out.ext hx8)
    have HM8 := Lib.hid (HM.out.ext hx8)
    have HX8 := Lib.hid (HXR.out.trans hx8)
    have HB2 : Hid (wc.heap.size ≤ B2.c ∧ wc.heap.size ≤ B2.d ∧ wc.heap.size ≤ B2.m) := Lib.hid ⟨b2, b3, b4⟩
    have HC : Hid (∀ w', PlAt w' B2 P → Calls Try.prog 14 #[.pointer (some ⟨B2.p, 0, none⟩), .agg st0.C.toArray, .int .i64 7, .agg #[.int .i32 65536, .int .i32 65536, .int .i32 65536, .int .i32 65536], .int .i32 0, .int .i64 255] w' fun e w'' => e = .returned (.int .i64 0) ∧ PlAt w'' B2 (clrV st0 7 ⟨65536, 65536, 65536, 65536⟩ 0 255 P) ∧ Chg [B2.c, B2.d, B2.m] w' w'') := Lib.hid fun w' h => clear_any B2 P st0 7 0 255 ⟨65536, 65536, 65536, 65536⟩ st0_ok (by decide) w' h
    clear hp8 hx8 b1 b2 b3 b4 HP HXR HM
    go_upto_region 26 with (first | (go_at_call 15; refine (opsnew_any _).mono ?_; rintro _ w9 ⟨rfl, hx9⟩) | (go_at_call 14; refine (HC.out _ (HQ8.out.ext hx9)).mono ?_; rintro _ w10 ⟨rfl, _, hc10⟩))
    have hB := HB.out
    have hB2 := HB2.out
    have hSZ := HSZ.out
    have HM10 := Lib.hid ((HM8.out.ext hx9).chg hc10 (by have := heap_lt HM5.out; simp; omega))
    have HP10 := Lib.hid ((HP8.out.ext hx9).chg hc10 (by simp; omega) (by simp; omega) (by simp; omega) (by simp; omega))
    have HX10 : Hid (Ext w w10) := Lib.hid ((HX8.out.trans hx9).chgTrans hc10 (by have := HX5.out.size; simp; omega))
    have d1 : w10.cell? ⟨r, 1, none⟩ = some (.int .i64 H) := cell_of_heap HM10.out rfl
    have n10 := heap_lt HM10.out
    clear hx9 hc10 hB hB2 hSZ HQ8 HP8 HM8 HX8 HC
    go_wp2_with fail
    go_loopw [134] (fun i wr => ∃ y : Nat, y ≤ H ∧ i = .int .i64 y ∧ Hid (PlAt wr B P ∧ Chg [B.c, B.d, B.m] w10 wr)) (fun i _ => (H - (intOf i).toNat))
    case atStart => exact ⟨0, Nat.zero_le _, rfl, Lib.hid ⟨HP10.out, Chg.refl _ _⟩⟩
    case round =>
      rename World => wr
      obtain ⟨y, hy, rfl, HR2⟩ := hrel
      by_cases hlt : y < H
      · have hyi : (y : Int) < (H : Int) := by omega
        have hmr := HM10.out.chg HR2.out.2 (by have := HB.out; simp; omega)
        have d0 : wr.cell? ⟨r, 0, none⟩ = some (.int .i64 W) := cell_of_heap hmr rfl
        have nr := heap_lt hmr
        clear hmr
        go_wp2_with fail
        go_loopw [139] (fun i wq => ∃ x : Nat, x ≤ W ∧ i = .int .i64 x ∧ Hid (PlAt wq B P ∧ Chg [B.c, B.d, B.m] w10 wq)) (fun i _ => (W - (intOf i).toNat))
        case atStart => exact ⟨0, Nat.zero_le _, rfl, HR2⟩
        case round =>
          rename World => wq
          obtain ⟨x, hx, rfl, HQ⟩ := hrel
          by_cases hlx : x < W
          · have hxi : (x : Int) < (W : Int) := by omega
            obtain ⟨j, hj⟩ : ∃ j, y * P.W + x = j := ⟨_, rfl⟩
            obtain ⟨ce, hce⟩ : ∃ ce, cellV P j = ce := ⟨_, rfl⟩
            have hD := HDIM.out
            have hjl : j < P.W * P.H := by rw [← hj]; exact place_lt (by omega) (by omega)
            have HCL : Hid (∀ w', PlAt w' B P → Calls Try.prog 16 #[.pointer (some ⟨B.p, 0, none⟩), .int .i64 x, .int .i64 y] w' fun e w'' => e = .returned (.tuple #[.agg ce.C.toArray, .int .i64 0]) ∧ Ext w' w'') := Lib.hid fun w' h => by
              have := cellp_in B P x y (by omega) (by omega) w' h
              rw [hj, hce] at this
              exact this
            have HLK : Hid (∀ w', PlAt w' B P → Calls Try.prog 19 #[.pointer (some ⟨B.p, 0, none⟩), .int .i64 x, .int .i64 y, .agg ce.C.toArray] w' fun e w'' => e = .returned (.int .i64 0) ∧ PlAt w'' B P ∧ Chg [B.c, B.d, B.m] w' w'') := Lib.hid fun w' h => by
              have := layp_ok B P x y ce (by omega) (by omega) (by rw [← hce]; exact may_cell h.ok hjl) w' h
              rw [hj, ← hce, lay_back h.ok hjl, hce] at this
              exact this
            clear hj hce hD hjl
            go_upto_region 33 with (go_at_call 16; refine (HCL.out _ HQ.out.1).mono ?_; rintro _ w11 ⟨rfl, hx11⟩; obtain ⟨w12, hst12, h12, hx12⟩ := newC w11 ce)
            have HP12 := Lib.hid (HQ.out.1.ext (hx11.trans hx12))
            have HW12 := Lib.hid (HQ.out.2.ext2 (hx11.trans hx12))
            have HC12 := Lib.hid h12
            have HS12 : Hid (w11.heap.size ∉ [B.c, B.d, B.m]) := Lib.hid (by have := heap_lt HP10.out.c; have := heap_lt HP10.out.d; have := heap_lt HP10.out.m; have := HQ.out.2.size; have := hx11.size; simp; omega)
            obtain ⟨bc, hbc⟩ : ∃ bc, w11.heap.size = bc := ⟨_, rfl⟩
            rw [hbc] at HC12 HS12
            rw [hbc]
            have l12 := CAt.load2 HC12.out
            have n12 := heap_lt HC12.out
            clear h12 hx11 hx12 hst12 hbc
            go_upto_region 34 with (go_at_call 19; refine (HLK.out _ HP12.out).mono ?_; rintro _ w14 ⟨rfl, hp14, hc14⟩)
            have HP14 := Lib.hid hp14
            have HW14 := Lib.hid (HW12.out.trans hc14)
            have HC14 := Lib.hid (HC12.out.chg hc14 HS12.out)
            clear hp14 hc14 HP12 HW12 HC12 l12 n12
            go_upto_region 35 with (go_at_call 16; refine (HCL.out _ HP14.out).mono ?_; rintro _ w16 ⟨rfl, hx16⟩; obtain ⟨w17, hst17, h17, hx17⟩ := newC w16 ce)
            have HP17 := Lib.hid (HP14.out.ext (hx16.trans hx17))
            have HW17 := Lib.hid (HW14.out.ext2 (hx16.trans hx17))
            have hc17 := HC14.out.ext (hx16.trans hx17)
            have l17 := CAt.load2 h17
            have n17 := heap_lt h17
            have l18 := CAt.load2 hc17
            have n18 := heap_lt hc17
            clear hc17 h17 hx16 hx17 hst17 HP14 HW14
            go_wp2_with fail
            go_roundw
            case rel => exact ⟨x + 1, by omega, by go_num, Lib.hid ⟨HP17.out, HW17.out⟩⟩
            case measure => simp [intOf]; omega
          · obtain rfl : x = W := by omega
            go_wp2_with fail
            go_roundw
            case rel => exact ⟨y + 1, by omega, by go_num, HQ⟩
            case measure => simp [intOf]; omega
      · obtain rfl : y = H := by omega
        go_wp2_with fail
        go_ret
        exact ⟨rfl, HX10.out.chgTrans HR2.out.2 (by have := HB.out; simp; omega)⟩
end
theorem keeps_arg (W : World) (v0 v1 : Value) (h0 : ArgIs Try.prog W 23 v0) (h1 : ArgIs Try.prog W 52 v1) : Calls Try.prog 4 #[v0, v1] W fun e w' => e = .returned (.bool true) ∧ Ext W w' := by
  obtain ⟨m, rfl, hw, hh, hf⟩ := mdIn h0
  obtain ⟨L, hL, hwf⟩ := ops_arg h1
  exact keeps_walk m hw hh hf v1 L hwf W hL
end Go.Proofs.Ytgdcdkajicgliaa
