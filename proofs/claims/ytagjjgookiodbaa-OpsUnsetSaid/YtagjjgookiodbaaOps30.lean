/- The walk of OpsUnset. Conditions: each theorem's own premises. -/
import Derived.Test.YtagjjgookiodbaaOps29
namespace Go.Proofs.Ytagjjgookiodbaa
open Go.RowKit
set_option linter.unusedVariables false
set_option linter.unusedSimpArgs false
attribute [local go_sem ↓] Ld_V4 St_V4 Ld_St Ld_Fr Ld_Ce St_Ce St_St Ld_Sten St_Sten Ld_Bl St_Bl Ld_Pi St_Pi
attribute [local go_sem ↓] eqC eqCz eqV eqVz

theorem StAt.drew {w : World} {b : Nat} {t : St} (h : StAt w b t) : StAt w.drew b t := h
set_option maxHeartbeats 8000000 in
set_option maxRecDepth 100000 in
theorem unset_walk (s o : St) (p : Pa) (w : World) : Calls Try.prog 8 #[.agg s.C.toArray, .agg o.C.toArray, .agg p.C.toArray] w fun e w' => e = .returned (.bool true) ∧ Ext w w' := by
  obtain ⟨w2, hw2, hs, ho, hp, hx⟩ := heap_three w (.cells s.C.toArray 33) (.cells o.C.toArray 33) (.cells p.C.toArray 40)
  have HW := Lib.hid hw2
  clear hw2
  go_enter Try.func8, Try.ntmps8
  go_upto_region 1 with fail
  rw [HW.out]
  have HB : Hid (w.heap.size ≤ w.heap.size) := Lib.hid (Nat.le_refl _)
  generalize hb0 : w.heap.size = b0 at hs ho hp ⊢
  have HB0 := Lib.hid hb0
  clear hb0 HW HB
  go_upto_region 3 with (go_at_call 10; refine (wakes_any _).mono ?_; rintro _ w3 ⟨rfl, hx3⟩)
  have HS := Lib.hid (StAt.ext (s := s) hs hx3)
  have HO := Lib.hid (StAt.ext (s := o) ho hx3)
  have HP := Lib.hid (PAt.ext (p := p) hp hx3)
  have HX := Lib.hid (hx.trans hx3)
  clear hs hp ho hx hx3
  have c9 : w3.cell? ⟨b0 + 1 + 1, 9, none⟩ = some p.f.vars := cell_of_heap HP.out rfl
  have f9 : w3.frozen? ⟨b0 + 1 + 1, 9, none⟩ = false := free_of_heap HP.out
  have n0 := heap_lt HP.out
  have hch : Chg [b0 + 1 + 1] w3 (w3.setCell ⟨b0 + 1 + 1, 9, none⟩ (.slice none 0 0)) := (Chg.refl _ _).setCell (by simp) _
  have HP4 := Lib.hid (HP.out.set9)
  have HS4 := Lib.hid (HS.out.chg hch (by simp; omega))
  have HO4 := Lib.hid (HO.out.chg hch (by simp))
  have HX4 := Lib.hid (HX.out.chgTrans hch (by rw [HB0.out]; simp; omega))
  clear hch HS HP HX HO
  go_upto_region 4 with fail
  clear c9 f9 n0
  generalize w3.setCell ⟨b0 + 1 + 1, 9, none⟩ (.slice none 0 0) = w4 at *
  have l1 := HS4.out.load
  have n1 := heap_lt HS4.out
  cases hok : stOk s
  · have HCK := Lib.hid (fun w => by have := check_any s w; rw [hok] at this; exact this)
    clear hok
    go_wp2_with (go_at_call 16; refine (HCK.out _).mono ?_; rintro _ w5 ⟨rfl, hx5⟩; have HX5 := Lib.hid hx5)
    all_goals go_ret
    all_goals exact ⟨by simp, HX4.out.trans HX5.out⟩
  · have HCK := Lib.hid (fun w => by have := check_any s w; rw [hok] at this; exact this)
    have HOK := Lib.hid hok
    clear hok
    go_wp2_with fail
    refine (HCK.out _).mono ?_
    rintro _ w5 ⟨rfl, hx5⟩
    have l2 := (HO4.out.ext hx5).load
    have n2 := heap_lt (HO4.out.ext hx5)
    have HX5 := Lib.hid (HX4.out.trans hx5)
    have HS5 := Lib.hid (HS4.out.ext hx5)
    have HO5 := Lib.hid (HO4.out.ext hx5)
    have HP5 := Lib.hid (HP4.out.ext hx5)
    clear l1 n1 hx5 HX4 HS4 HO4 HP4 HCK
    cases hok2 : stOk o
    · have HCK := Lib.hid (fun w => by have := check_any o w; rw [hok2] at this; exact this)
      clear hok2
      go_wp2_with (go_at_call 16; refine (HCK.out _).mono ?_; rintro _ w6 ⟨rfl, hx6⟩; have HX6 := Lib.hid hx6)
      all_goals go_ret
      all_goals exact ⟨by simp, HX5.out.trans HX6.out⟩
    · have HCK := Lib.hid (fun w => by have := check_any o w; rw [hok2] at this; exact this)
      have HOK2 := Lib.hid hok2
      clear hok2
      go_upto_region 6 with (go_at_call 16; refine (HCK.out _).mono ?_; rintro _ w6 ⟨rfl, hx6⟩; have HX6 := Lib.hid (HX5.out.trans hx6); have HS6 := Lib.hid (HS5.out.ext hx6); have HO6 := Lib.hid (HO5.out.ext hx6); have HP6 := Lib.hid (HP5.out.ext hx6); clear hx6)
      clear HX5 HS5 HO5 HP5 HCK l2 n2
      have l1 := HS6.out.load
      have n1 := heap_lt HS6.out
      obtain ⟨w7, hst, h7, hx7⟩ := newS w6 s
      have HT := Lib.hid h7
      have HS := Lib.hid (HS6.out.ext hx7)
      have HO := Lib.hid (HO6.out.ext hx7)
      have HP := Lib.hid (HP6.out.ext hx7)
      have HX := Lib.hid (HX6.out.trans hx7)
      have n0 := heap_lt HS6.out
      have n2 := heap_lt HO6.out
      have n3 := heap_lt HP6.out
      have hbt := HX6.out.size
      rw [HB0.out] at hbt
      have HBT := Lib.hid hbt
      clear h7 hx7 HX6 HS6 HO6 HP6 hbt
      go_upto_region 7 with fail
      clear hst l1 n1
      generalize w6.heap.size = bt at *
      have c0 : w7.cell? ⟨b0, 0, none⟩ = some (.bool s.sc) := cell_of_heap HS.out rfl
      have n0 := heap_lt HS.out
      have n2 := heap_lt HO.out
      have n3 := heap_lt HP.out
      have nt := heap_lt HT.out
      go_upto_if 29 with fail
      go_cut [] (fun wc => StAt wc bt (mSc s o s) ∧ Chg [bt] w7 wc)
      case first =>
        cases hfl : s.sc
        · have lx := HO.out.loadX
          obtain ⟨wq, hst, hq, hcq⟩ := HT.out.midX o
          have HQ := Lib.hid hq
          have HCQ := Lib.hid hcq
          clear hq hcq
          go_wp2_with fail
          go_meet
          exact ⟨by unfold mSc; rw [if_neg (by rw [hfl]; decide)]; exact HQ.out, HCQ.out⟩
        · go_wp2_with fail
          go_meet
          exact ⟨by unfold mSc; rw [if_pos hfl]; exact HT.out, Chg.refl _ _⟩
      case rest =>
        obtain ⟨ht, hch⟩ := hcut
        rename World => w8
        have HS' := Lib.hid (HS.out.chg hch (by simp; omega))
        have HO' := Lib.hid (HO.out.chg hch (by simp; omega))
        have HP' := Lib.hid (HP.out.chg hch (by simp; omega))
        have HX' := Lib.hid (HX.out.chgTrans hch (by rw [HB0.out]; simp; exact HBT.out))
        have HT' := Lib.hid ht
        clear HS HO HP HX HT c0 n0 n2 n3 nt ht hch
        have HS := HS'
        have HO := HO'
        have HP := HP'
        have HX := HX'
        have HT := HT'
        clear HS' HO' HP' HX' HT'
        have c0 : w8.cell? ⟨b0, 5, none⟩ = some (.bool s.st) := cell_of_heap HS.out rfl
        have n0 := heap_lt HS.out
        have n2 := heap_lt HO.out
        have n3 := heap_lt HP.out
        have nt := heap_lt HT.out
        go_upto_if 35 with fail
        go_cut [] (fun wc => StAt wc bt (mSt s o (mSc s o s)) ∧ Chg [bt] w8 wc)
        case first =>
          cases hfl : s.st
          · have lf := (HO.out.drew).loadF
            have lb := (HO.out.drew).loadB
            obtain ⟨wq1, hst1, hq1, hcq1⟩ := (HT.out.drew).midF o.f
            obtain ⟨wq, hst2, hq, hcq⟩ := hq1.midB o.b
            have lb1 := (HO.out.drew.chg hcq1 (by simp; omega)).loadB
            have lf1 := (HO.out.drew.chg hcq1 (by simp; omega)).loadF
            have HQ := Lib.hid hq
            have HCQ := Lib.hid ((Chg.trans (((Ext.refl _).drew).chg _) hcq1).trans hcq)
            clear hq hcq hq1 hcq1
            go_upto_region 10 with fail
            go_region_with fail
            all_goals (go_wp2_with fail; go_meet)
            all_goals exact ⟨by unfold mSt; rw [if_neg (by rw [hfl]; decide)]; exact HQ.out, HCQ.out⟩
          · go_wp2_with fail
            go_meet
            exact ⟨by unfold mSt; rw [if_pos hfl]; exact HT.out, Chg.refl _ _⟩
        case rest =>
          obtain ⟨ht, hch⟩ := hcut
          rename World => w9
          have HS' := Lib.hid (HS.out.chg hch (by simp; omega))
          have HO' := Lib.hid (HO.out.chg hch (by simp; omega))
          have HP' := Lib.hid (HP.out.chg hch (by simp; omega))
          have HX' := Lib.hid (HX.out.chgTrans hch (by rw [HB0.out]; simp; exact HBT.out))
          have HT' := Lib.hid ht
          clear HS HO HP HX HT c0 n0 n2 n3 nt ht hch
          have HS := HS'
          have HO := HO'
          have HP := HP'
          have HX := HX'
          have HT := HT'
          clear HS' HO' HP' HX' HT'
          have c0 : w9.cell? ⟨b0, 20, none⟩ = some (.bool s.dt) := cell_of_heap HS.out rfl
          have n0 := heap_lt HS.out
          have n2 := heap_lt HO.out
          have n3 := heap_lt HP.out
          have nt := heap_lt HT.out
          go_upto_if 44 with fail
          go_cut [] (fun wc => StAt wc bt (mDt s o (mSt s o (mSc s o s))) ∧ Chg [bt] w9 wc)
          case first =>
            cases hfl : s.dt
            · have e1 : w9.drew.cell? ⟨b0 + 1, 22, none⟩ = some (.int .i64 o.df) := cell_of_heap (HO.out.drew) rfl
              have e2 : w9.drew.cell? ⟨b0 + 1, 21, none⟩ = some (.bool o.dw) := cell_of_heap (HO.out.drew) rfl
              have e3 : w9.drew.cell? ⟨bt, 22, none⟩ = some (.int .i64 ((mSt s o (mSc s o s))).df) := cell_of_heap (HT.out.drew) rfl
              have e4 : w9.drew.frozen? ⟨bt, 22, none⟩ = false := free_of_heap (HT.out.drew)
              have hq1 := HT.out.drew.set22 o.df
              have e5 : ((w9.setCell ⟨bt, 22, none⟩ (.int .i64 o.df)).drew).cell? ⟨bt, 21, none⟩ = some (.bool ((mSt s o (mSc s o s))).dw) := cell_of_heap hq1 rfl
              have e6 : ((w9.setCell ⟨bt, 22, none⟩ (.int .i64 o.df)).drew).frozen? ⟨bt, 21, none⟩ = false := free_of_heap hq1
              have hch1 : Chg [bt] w9.drew (w9.drew.setCell ⟨bt, 22, none⟩ (.int .i64 o.df)) := (Chg.refl _ _).setCell (by simp) _
              have e7 : ((w9.setCell ⟨bt, 22, none⟩ (.int .i64 o.df)).drew).cell? ⟨b0 + 1, 21, none⟩ = some (.bool o.dw) := cell_of_heap (HO.out.drew.chg hch1 (by simp; omega)) rfl
              have HQ := Lib.hid (hq1.set21 o.dw)
              clear hch1
              obtain ⟨xd, hxd⟩ : ∃ x, ((mSt s o (mSc s o s))).df = x := ⟨_, rfl⟩
              obtain ⟨xw, hxw⟩ : ∃ x, ((mSt s o (mSc s o s))).dw = x := ⟨_, rfl⟩
              rw [hxd] at e3
              rw [hxw] at e5
              clear hxd hxw
              clear hq1
              go_upto_region 12 with fail
              go_region
              all_goals (go_wp2_with fail; go_meet)
              all_goals exact ⟨by unfold mDt; rw [if_neg (by rw [hfl]; decide)]; exact HQ.out, ((((Ext.refl _).drew).chg _).setCell (by simp) _).setCell (by simp) _⟩
            · go_wp2_with fail
              go_meet
              exact ⟨by unfold mDt; rw [if_pos hfl]; exact HT.out, Chg.refl _ _⟩
          case rest =>
            obtain ⟨ht, hch⟩ := hcut
            rename World => w10
            have HS' := Lib.hid (HS.out.chg hch (by simp; omega))
            have HO' := Lib.hid (HO.out.chg hch (by simp; omega))
            have HP' := Lib.hid (HP.out.chg hch (by simp; omega))
            have HX' := Lib.hid (HX.out.chgTrans hch (by rw [HB0.out]; simp; exact HBT.out))
            have HT' := Lib.hid ht
            clear HS HO HP HX HT c0 n0 n2 n3 nt ht hch
            have HS := HS'
            have HO := HO'
            have HP := HP'
            have HX := HX'
            have HT := HT'
            clear HS' HO' HP' HX' HT'
            have c0 : w10.cell? ⟨b0, 23, none⟩ = some (.bool s.bl) := cell_of_heap HS.out rfl
            have n0 := heap_lt HS.out
            have n2 := heap_lt HO.out
            have n3 := heap_lt HP.out
            have nt := heap_lt HT.out
            go_upto_if 53 with fail
            go_cut [] (fun wc => StAt wc bt (mBl s o (mDt s o (mSt s o (mSc s o s)))) ∧ Chg [bt] w10 wc)
            case first =>
              cases hfl : s.bl
              · have lr := HO.out.drew.loadR
                have la := HO.out.drew.loadA
                have lk := HO.out.drew.loadK
                obtain ⟨wq1, hst1, hq1, hcq1⟩ := HT.out.drew.midR o.rgb
                obtain ⟨wq2, hst2, hq2, hcq2⟩ := hq1.midA o.al
                obtain ⟨wq, hst3, hq, hcq⟩ := hq2.midK o.k
                have ho1 := HO.out.drew.chg hcq1 (by simp; omega)
                have ho2 := ho1.chg hcq2 (by simp; omega)
                have la1 := ho1.loadA
                have lk1 := ho1.loadK
                have lk2 := ho2.loadK
                clear ho1 ho2
                have HQ := Lib.hid hq
                have HCQ := Lib.hid (((Chg.trans (((Ext.refl _).drew).chg _) hcq1).trans hcq2).trans hcq)
                clear hq hcq hq1 hcq1 hq2 hcq2
                go_upto_region 14 with fail
                go_region_with fail
                all_goals (go_wp2_with fail; go_meet)
                all_goals exact ⟨by unfold mBl; rw [if_neg (by rw [hfl]; decide)]; exact HQ.out, HCQ.out⟩
              · go_wp2_with fail
                go_meet
                exact ⟨by unfold mBl; rw [if_pos hfl]; exact HT.out, Chg.refl _ _⟩
            case rest =>
              obtain ⟨ht, hch⟩ := hcut
              rename World => w11
              have HS' := Lib.hid (HS.out.chg hch (by simp; omega))
              have HO' := Lib.hid (HO.out.chg hch (by simp; omega))
              have HP' := Lib.hid (HP.out.chg hch (by simp; omega))
              have HX' := Lib.hid (HX.out.chgTrans hch (by rw [HB0.out]; simp; exact HBT.out))
              have HT' := Lib.hid ht
              clear HS HO HP HX HT c0 n0 n2 n3 nt ht hch
              have HS := HS'
              have HO := HO'
              have HP := HP'
              have HX := HX'
              have HT := HT'
              clear HS' HO' HP' HX' HT'
              have HT : Hid (StAt w11 bt (mAll s o)) := HT
              obtain ⟨A, hA⟩ : ∃ A, applyR s p.nv.f p.nv.col p.nv.ce = A := ⟨_, rfl⟩
              have HAP := Lib.hid (fun w => by have := apply_any s p.nv.f p.nv.col p.nv.ce w; rw [hA] at this; exact this)
              have HAT := Lib.hid (fun w => by have := apply_any (mAll s o) p.nv.f p.nv.col p.nv.ce w; rw [mAll_applyR HOK.out HOK2.out, hA] at this; exact this)
              clear hA
              generalize mAll s o = t at HT HAT
              have l1 := HS.out.load
              have l2 := HP.out.loadF
              have l3 := HP.out.loadV
              have l4 := HP.out.loadC
              have n1 := heap_lt HS.out
              have n2 := heap_lt HP.out
              go_upto_region 16 with (go_at_call 11; refine (HAP.out _).mono ?_; rintro _ w12 ⟨rfl, hx12⟩; obtain ⟨w13, hst, h13, hx13⟩ := newC w12 A.1; have HC := Lib.hid h13; have HX12 := Lib.hid (hx12.trans hx13); clear h13 hx12 hx13)
              clear hst l1 l2 l3 l4 n1 n2
              generalize w12.heap.size = bc at *
              have HT2 := Lib.hid (HT.out.ext HX12.out)
              have HP2 := Lib.hid (HP.out.ext HX12.out)
              have HX2 := Lib.hid (HX.out.trans HX12.out)
              clear HT HP HX HS HO
              have l1 := HT2.out.load
              have l2 := HP2.out.loadF
              have l3 := HP2.out.loadV
              have l4 := HP2.out.loadC
              have n1 := heap_lt HT2.out
              have n2 := heap_lt HP2.out
              go_upto_region 17 with (go_at_call 11; refine (HAT.out _).mono ?_; rintro _ w14 ⟨rfl, hx14⟩; obtain ⟨w15, hst, h15, hx15⟩ := newC w14 A.1; have HD := Lib.hid h15; have HX14 := Lib.hid (hx14.trans hx15); clear h15 hx14 hx15)
              clear hst l1 l2 l3 l4 n1 n2
              generalize w14.heap.size = bd at *
              have l1 := (HC.out.ext HX14.out).load2
              have l2 := HD.out.load2
              have n1 := heap_lt (HC.out.ext HX14.out)
              have n2 := heap_lt HD.out
              go_wp2_with fail
              all_goals go_ret
              all_goals exact ⟨by simp, HX2.out.trans HX14.out⟩
theorem unset_arg (W : World) (v0 v1 v2 : Value) (h0 : ArgIs Try.prog W 33 v0) (h1 : ArgIs Try.prog W 33 v1) (h2 : ArgIs Try.prog W 40 v2) : Calls Try.prog 8 #[v0, v1, v2] W fun e w' => e = .returned (.bool true) ∧ Ext W w' := by
  obtain ⟨s, rfl⟩ := stIn h0
  obtain ⟨o, rfl⟩ := stIn h1
  obtain ⟨p, rfl⟩ := paintIn h2
  exact unset_walk s o p W
end Go.Proofs.Ytagjjgookiodbaa
