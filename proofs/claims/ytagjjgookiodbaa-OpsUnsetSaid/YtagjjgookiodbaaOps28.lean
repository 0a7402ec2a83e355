/- The walk of OpsStays. Conditions: each theorem's own premises. -/
import Derived.Test.YtagjjgookiodbaaOps27
namespace Go.Proofs.Ytagjjgookiodbaa
open Go.RowKit
set_option linter.unusedVariables false
set_option linter.unusedSimpArgs false
attribute [local go_sem ↓] Ld_V4 St_V4 Ld_St Ld_Fr Ld_Ce St_Ce
attribute [local go_sem ↓] eqC eqCz eqV eqVz
attribute [local go_sem] idxM0 idxM1 idxM2 idxM3
theorem PAt.loadCV {w : World} {b : Nat} {p : Pa} (h : PAt w b p) : (@Classical.epsilon _ neV (LdP 30 (.pointer (some ⟨b, 14, none⟩)))).run Try.prog w = .ok (.agg p.ce.v.C.toArray) w :=
  ld_ok _ (range_cells h (fun j v hv => by
    have hj : j < 4 := by have := (List.getElem?_eq_some_iff.1 hv).1; exact this
    have : j = 0 ∨ j = 1 ∨ j = 2 ∨ j = 3 := by omega
    rcases this with rfl | rfl | rfl | rfl <;> exact hv)) Try.underlying30 rfl rfl

set_option maxHeartbeats 8000000 in
set_option maxRecDepth 100000 in
theorem stays_walk (s : St) (p q : Pa) (w : World) : Calls Try.prog 7 #[.agg s.C.toArray, .agg p.C.toArray, .agg q.C.toArray] w fun e w' => e = .returned (.bool true) ∧ Ext w w' := by
  obtain ⟨w2, hw2, hs, hp, hq, hx⟩ := heap_three w (.cells s.C.toArray 33) (.cells p.C.toArray 40) (.cells q.C.toArray 40)
  have HW := Lib.hid hw2
  clear hw2
  obtain ⟨A, hA⟩ : ∃ A, (applyR s p.nv.f p.nv.col p.nv.ce) = A := ⟨_, rfl⟩
  have HAPP : ∀ w, Calls Try.prog 11 #[.agg s.C.toArray, .agg p.nv.f.C.toArray, .agg p.nv.col.C.toArray, .agg p.nv.ce.C.toArray] w fun e w' => e = .returned (.tuple #[.agg A.1.C.toArray, .bool A.2.1, .int .i64 A.2.2]) ∧ Ext w w' := fun w => by rw [← hA]; exact apply_any s p.nv.f p.nv.col p.nv.ce w
  have HAP := Lib.hid HAPP
  have HA := Lib.hid hA
  clear HAPP hA
  go_enter Try.func7, Try.ntmps7
  go_upto_region 1 with fail
  rw [HW.out]
  have HB : Hid (w.heap.size ≤ w.heap.size) := Lib.hid (Nat.le_refl _)
  generalize hb0 : w.heap.size = b0 at hs hp hq ⊢
  have HB0 := Lib.hid hb0
  clear hb0 HW HB
  go_upto_region 3 with (go_at_call 10; refine (wakes_any _).mono ?_; rintro _ w3 ⟨rfl, hx3⟩)
  have HS := Lib.hid (StAt.ext (s := s) hs hx3)
  have HP := Lib.hid (PAt.ext (p := p) hp hx3)
  have HQ := Lib.hid (PAt.ext (p := q) hq hx3)
  have HX := Lib.hid (hx.trans hx3)
  clear hs hp hq hx hx3
  have c9 : w3.cell? ⟨b0 + 1, 9, none⟩ = some p.f.vars := cell_of_heap HP.out rfl
  have f9 : w3.frozen? ⟨b0 + 1, 9, none⟩ = false := free_of_heap HP.out
  have c8 : w3.cell? ⟨b0 + 1 + 1, 9, none⟩ = some q.f.vars := cell_of_heap HQ.out rfl
  have f8 : w3.frozen? ⟨b0 + 1 + 1, 9, none⟩ = false := free_of_heap HQ.out
  have n0 := heap_lt HP.out
  have n1 := heap_lt HQ.out
  have hch : Chg [b0 + 1] w3 (w3.setCell ⟨b0 + 1, 9, none⟩ (.slice none 0 0)) := (Chg.refl _ _).setCell (by simp) _
  have hp4 := HP.out.set9
  have hq4 := (HQ.out.chg hch (by simp)).set9
  have hch2 : Chg [b0 + 1 + 1] (w3.setCell ⟨b0 + 1, 9, none⟩ (.slice none 0 0)) ((w3.setCell ⟨b0 + 1, 9, none⟩ (.slice none 0 0)).setCell ⟨b0 + 1 + 1, 9, none⟩ (.slice none 0 0)) := (Chg.refl _ _).setCell (by simp) _
  have HP4 := Lib.hid (hp4.chg hch2 (by simp))
  have HS4 := Lib.hid ((HS.out.chg hch (by simp)).chg hch2 (by simp; omega))
  have HQ4 := Lib.hid hq4
  have HX4 := Lib.hid ((HX.out.chgTrans hch (by rw [HB0.out]; simp)).chgTrans hch2 (by rw [HB0.out]; simp; omega))
  clear hp4 hq4 hch hch2 HS HP HX HQ
  go_upto_region 4 with fail
  clear c9 f9 n0 c8 f8 n1
  generalize (w3.setCell ⟨b0 + 1, 9, none⟩ (.slice none 0 0)).setCell ⟨b0 + 1 + 1, 9, none⟩ (.slice none 0 0) = w4 at *
  have l1 := HS4.out.load
  have l2 := HP4.out.loadF
  have l3 := HP4.out.loadV
  have l4 := HP4.out.loadC
  have n1 := heap_lt HS4.out
  have n2 := heap_lt HP4.out
  go_upto_region 5 with (go_at_call 11; refine (HAP.out _).mono ?_; rintro _ w5 ⟨rfl, hx5⟩; obtain ⟨w6, hst, h6, hx6⟩ := newC w5 A.1; have HC6 := Lib.hid h6; have HX6 := Lib.hid (hx5.trans hx6); clear h6 hx5 hx6)
  clear hst l1 l2 l3 l4 n1 n2
  generalize w5.heap.size = bc at *
  have HS6 := Lib.hid (HS4.out.ext HX6.out)
  have HP6 := Lib.hid (HP4.out.ext HX6.out)
  have HQ6 := Lib.hid (HQ4.out.ext HX6.out)
  have HXA := Lib.hid (HX4.out.trans HX6.out)
  clear HS4 HP4 HX4 HX6 HQ4
  by_cases hgood : stOk s = true ∧ ceOk p.ce = true
  rotate_left
  · have hne : A = (ceZ, false, 340) ∨ A = (ceZ, false, 2) := by
      rw [← HA.out]
      cases hh : stOk s
      · exact Or.inl (applyR_not hh _ _ _)
      · have : ceOk p.nv.ce = false := by
          cases hc : ceOk p.nv.ce
          · rfl
          · exact absurd ⟨hh, hc⟩ hgood
        exact Or.inr (applyR_arg hh this _ _)
    clear hgood HA HAP
    rcases hne with rfl | rfl
    · have HC6 : Hid (CAt w6 bc ceZ) := HC6
      have l1 := HC6.out.load2
      have n1 := heap_lt HC6.out
      go_wp2_with fail
      all_goals go_ret
      all_goals exact ⟨by simp, HXA.out⟩
    · have HC6 : Hid (CAt w6 bc ceZ) := HC6
      have l1 := HC6.out.load2
      have n1 := heap_lt HC6.out
      go_wp2_with fail
      all_goals go_ret
      all_goals exact ⟨by simp, HXA.out⟩
  · obtain ⟨hok, hco⟩ := hgood
    have hT := stays hok p.nv.f p.nv.col (c := p.nv.ce) hco
    have hz : A = ((applyV s p.nv.f p.nv.col p.nv.ce).1, (applyV s p.nv.f p.nv.col p.nv.ce).2, 0) := by rw [← HA.out]; exact applyR_ok hok (c := p.nv.ce) hco _ _
    generalize applyV s p.nv.f p.nv.col p.nv.ce = V at *
    obtain ⟨⟨v1, d1, s1⟩, V2⟩ := V
    subst hz
    have HC6 : Hid (CAt w6 bc ⟨v1, d1, s1⟩) := HC6
    have HAP2 := Lib.hid (fun w => by have := apply_any s q.nv.f q.nv.col ⟨v1, d1, s1⟩ w; rw [applyR_ok hok hT.ok] at this; exact this)
    have HT := Lib.hid hT
    have HP6 : Hid (PAt w6 (b0 + 1) ⟨p.nv.f, p.col, ⟨p.ce.v, p.ce.dep, p.ce.sten⟩⟩) := HP6
    have HT : Hid (Stays s p.nv.f ⟨p.ce.v, p.ce.dep, p.ce.sten⟩ (⟨v1, d1, s1⟩, V2)) := HT
    clear hok hco hT HA HAP
    obtain ⟨pf, pcol, V0, D0, S0⟩ := p
    have HP6 : Hid (PAt w6 (b0 + 1) ⟨pf.nv, pcol, ⟨V0, D0, S0⟩⟩) := HP6
    have HT : Hid (Stays s pf.nv ⟨V0, D0, S0⟩ (⟨v1, d1, s1⟩, V2)) := HT
    go_upto_region 7 with fail
    have L1 : (@Classical.epsilon _ neV (LdP 30 (.pointer (some ⟨bc, 0, none⟩)))).run Try.prog w6 = .ok (.agg v1.C.toArray) w6 := HC6.out.loadV
    have L2 : (@Classical.epsilon _ neV (LdP 30 (.pointer (some ⟨b0 + 1, 14, none⟩)))).run Try.prog w6 = .ok (.agg V0.C.toArray) w6 := HP6.out.loadCV
    have e1 : w6.cell? ⟨bc, 4, none⟩ = some (.int .i32 d1) := cell_of_heap HC6.out rfl
    have e2 : w6.cell? ⟨bc, 5, none⟩ = some (.int .i64 s1) := cell_of_heap HC6.out rfl
    have e3 : w6.cell? ⟨b0 + 1, 18, none⟩ = some (.int .i32 D0) := cell_of_heap HP6.out rfl
    have e4 : w6.cell? ⟨b0 + 1, 19, none⟩ = some (.int .i64 S0) := cell_of_heap HP6.out rfl
    have e5 : w6.cell? ⟨b0, 5, none⟩ = some (.bool s.st) := cell_of_heap HS6.out rfl
    have e6 : w6.cell? ⟨b0, 20, none⟩ = some (.bool s.dt) := cell_of_heap HS6.out rfl
    have e7 : w6.cell? ⟨b0, 21, none⟩ = some (.bool s.dw) := cell_of_heap HS6.out rfl
    have n1 := heap_lt HS6.out
    have n2 := heap_lt HP6.out
    have n3 := heap_lt HC6.out
    go_cut [90] (fun v wc => v = .bool false ∧ w6 = wc)
    case first =>
      cases V2
      · have h12 := HT.out.no rfl
        have h1 : v1 = V0 := h12.1
        have h2 : d1 = D0 := h12.2
        clear h12
        subst h1
        subst h2
        cases hst : s.st
        · have hs : s1 = S0 := HT.out.st hst
          subst hs
          cases hdt : s.dt
          · go_wp2_with fail
            all_goals go_meet
            all_goals exact ⟨by simp, rfl⟩
          · cases hdw : s.dw
            · go_wp2_with fail
              all_goals go_meet
              all_goals exact ⟨by simp, rfl⟩
            · go_wp2_with fail
              all_goals go_meet
              all_goals exact ⟨by simp, rfl⟩
        · cases hdt : s.dt
          · go_wp2_with fail
            all_goals go_meet
            all_goals exact ⟨by simp, rfl⟩
          · cases hdw : s.dw
            · go_wp2_with fail
              all_goals go_meet
              all_goals exact ⟨by simp, rfl⟩
            · go_wp2_with fail
              all_goals go_meet
              all_goals exact ⟨by simp, rfl⟩
      · cases hst : s.st
        · have hs : s1 = S0 := HT.out.st hst
          subst hs
          cases hdt : s.dt
          · have hd : d1 = D0 := HT.out.dt (by rw [hdt]; rfl)
            subst hd
            go_wp2_with fail
            all_goals go_meet
            all_goals exact ⟨by simp, rfl⟩
          · cases hdw : s.dw
            · have hd : d1 = D0 := HT.out.dt (by rw [hdt, hdw]; rfl)
              subst hd
              go_wp2_with fail
              all_goals go_meet
              all_goals exact ⟨by simp, rfl⟩
            · go_wp2_with fail
              all_goals go_meet
              all_goals exact ⟨by simp, rfl⟩
        · cases hdt : s.dt
          · have hd : d1 = D0 := HT.out.dt (by rw [hdt]; rfl)
            subst hd
            go_wp2_with fail
            all_goals go_meet
            all_goals exact ⟨by simp, rfl⟩
          · cases hdw : s.dw
            · have hd : d1 = D0 := HT.out.dt (by rw [hdt, hdw]; rfl)
              subst hd
              go_wp2_with fail
              all_goals go_meet
              all_goals exact ⟨by simp, rfl⟩
            · go_wp2_with fail
              all_goals go_meet
              all_goals exact ⟨by simp, rfl⟩
    case rest =>
      obtain ⟨rfl, rfl⟩ := hcut
      clear L1 L2 e1 e2 e3 e4 e5 e6 e7
      have q0 : w6.cell? ⟨b0, 34, none⟩ = some (.bool s.m0) := cell_of_heap HS6.out rfl
      have q1 : w6.cell? ⟨b0, 35, none⟩ = some (.bool s.m1) := cell_of_heap HS6.out rfl
      have q2 : w6.cell? ⟨b0, 36, none⟩ = some (.bool s.m2) := cell_of_heap HS6.out rfl
      have q3 : w6.cell? ⟨b0, 37, none⟩ = some (.bool s.m3) := cell_of_heap HS6.out rfl
      go_upto_region 10 with fail
      clear q0 q1 q2 q3 n1 n2 n3
      go_loopw [93] (fun i wq => ∃ m : Nat, (m = 0 ∨ m = 1 ∨ m = 2 ∨ m = 3 ∨ m = 4) ∧ i = .int .i64 m ∧ Ext w6 wq) (fun i _ => (4 - intOf i).toNat)
      case atStart => exact ⟨0, by decide, rfl, Ext.refl _⟩
      case round =>
        obtain ⟨m, hm, rfl, hxr⟩ := hrel
        rename World => wr0
        have HSR := Lib.hid (HS6.out.ext hxr)
        have HPR := Lib.hid (HP6.out.ext hxr)
        have HQR := Lib.hid (HQ6.out.ext hxr)
        have HCR := Lib.hid (HC6.out.ext hxr)
        have HXR := Lib.hid hxr
        have n1 := heap_lt HSR.out
        have n2 := heap_lt HPR.out
        have n3 := heap_lt HCR.out
        clear hxr
        rcases hm with rfl | rfl | rfl | rfl | rfl
        · have a1 : wr0.cell? ⟨bc, 0, none⟩ = some (.int .i32 v1.a) := cell_of_heap HCR.out rfl
          have a2 : wr0.cell? ⟨b0 + 1, 14, none⟩ = some (.int .i32 V0.a) := cell_of_heap HPR.out rfl
          cases hmm : s.m0
          · have hv : v1.a = V0.a := HT.out.m0 hmm
            rw [hv] at a1
            clear hv
            generalize V0.a = X at *
            go_upto_region 12 with fail
            go_quiet (fail)
            go_wp2_with fail
            go_roundw
            case rel => exact ⟨1, by decide, by first | rfl | trivial, HXR.out.drewN _⟩
            case measure => simp [intOf]
          · go_upto_region 12 with fail
            go_quiet (fail)
            go_wp2_with fail
            go_roundw
            case rel => exact ⟨1, by decide, by first | rfl | trivial, HXR.out.drewN _⟩
            case measure => simp [intOf]
        · have a1 : wr0.cell? ⟨bc, 1, none⟩ = some (.int .i32 v1.b) := cell_of_heap HCR.out rfl
          have a2 : wr0.cell? ⟨b0 + 1, 15, none⟩ = some (.int .i32 V0.b) := cell_of_heap HPR.out rfl
          cases hmm : s.m1
          · have hv : v1.b = V0.b := HT.out.m1 hmm
            rw [hv] at a1
            clear hv
            generalize V0.b = X at *
            go_upto_region 12 with fail
            go_quiet (fail)
            go_wp2_with fail
            go_roundw
            case rel => exact ⟨2, by decide, by first | rfl | trivial, HXR.out.drewN _⟩
            case measure => simp [intOf]
          · go_upto_region 12 with fail
            go_quiet (fail)
            go_wp2_with fail
            go_roundw
            case rel => exact ⟨2, by decide, by first | rfl | trivial, HXR.out.drewN _⟩
            case measure => simp [intOf]
        · have a1 : wr0.cell? ⟨bc, 2, none⟩ = some (.int .i32 v1.c) := cell_of_heap HCR.out rfl
          have a2 : wr0.cell? ⟨b0 + 1, 16, none⟩ = some (.int .i32 V0.c) := cell_of_heap HPR.out rfl
          cases hmm : s.m2
          · have hv : v1.c = V0.c := HT.out.m2 hmm
            rw [hv] at a1
            clear hv
            generalize V0.c = X at *
            go_upto_region 12 with fail
            go_quiet (fail)
            go_wp2_with fail
            go_roundw
            case rel => exact ⟨3, by decide, by first | rfl | trivial, HXR.out.drewN _⟩
            case measure => simp [intOf]
          · go_upto_region 12 with fail
            go_quiet (fail)
            go_wp2_with fail
            go_roundw
            case rel => exact ⟨3, by decide, by first | rfl | trivial, HXR.out.drewN _⟩
            case measure => simp [intOf]
        · have a1 : wr0.cell? ⟨bc, 3, none⟩ = some (.int .i32 v1.d) := cell_of_heap HCR.out rfl
          have a2 : wr0.cell? ⟨b0 + 1, 17, none⟩ = some (.int .i32 V0.d) := cell_of_heap HPR.out rfl
          cases hmm : s.m3
          · have hv : v1.d = V0.d := HT.out.m3 hmm
            rw [hv] at a1
            clear hv
            generalize V0.d = X at *
            go_upto_region 12 with fail
            go_quiet (fail)
            go_wp2_with fail
            go_roundw
            case rel => exact ⟨4, by decide, by first | rfl | trivial, HXR.out.drewN _⟩
            case measure => simp [intOf]
          · go_upto_region 12 with fail
            go_quiet (fail)
            go_wp2_with fail
            go_roundw
            case rel => exact ⟨4, by decide, by first | rfl | trivial, HXR.out.drewN _⟩
            case measure => simp [intOf]
        · go_upto_region 15 with fail
          obtain ⟨W, hW⟩ : ∃ W, (sideV s pf.nv).write = W := ⟨_, rfl⟩
          have HWW := Lib.hid hW
          clear hW
          have g1 : wr0.cell? ⟨b0, 16, none⟩ = some (.int .i64 s.b.write) := cell_of_heap HSR.out rfl
          have g2 : wr0.cell? ⟨b0, 9, none⟩ = some (.int .i64 s.f.write) := cell_of_heap HSR.out rfl
          have g3 : wr0.cell? ⟨b0 + 1, 4, none⟩ = some (.bool pf.front) := cell_of_heap HPR.out rfl
          go_upto_if 117 with fail
          go_cut [12] (fun v wc => v = .int .i64 W ∧ wr0 = wc)
          case first =>
            cases hfr : pf.front
            · have hw : s.b.write = W := by rw [← HWW.out]; unfold sideV; rw [show pf.nv.front = pf.front from rfl, hfr]; rfl
              have HH := Lib.hid hw
              clear hw
              go_wp2_with fail
              all_goals go_meet
              all_goals exact ⟨by rw [HH.out], rfl⟩
            · have hw : s.f.write = W := by rw [← HWW.out]; unfold sideV; rw [show pf.nv.front = pf.front from rfl, hfr]; rfl
              have HH := Lib.hid hw
              clear hw
              go_wp2_with fail
              all_goals go_meet
              all_goals exact ⟨by rw [HH.out], rfl⟩
          case rest =>
            obtain ⟨rfl, rfl⟩ := hcut
            clear g1 g2 g3
            have hb : bits .andNot .i64 (bits .xor .i64 s1 S0) W = 0 := by rw [← HWW.out]; exact HT.out.bits
            have g4 : wr0.cell? ⟨bc, 5, none⟩ = some (.int .i64 s1) := cell_of_heap HCR.out rfl
            have g5 : wr0.cell? ⟨b0 + 1, 19, none⟩ = some (.int .i64 S0) := cell_of_heap HPR.out rfl
            go_upto_region 20 with fail
            clear hb g4 g5
            have l1 := HSR.out.load
            have l2 := HQR.out.loadF
            have l3 := HQR.out.loadV
            have l4 := HCR.out.load2
            have n4 := heap_lt HQR.out
            go_upto_region 21 with (go_at_call 11; refine (HAP2.out _).mono ?_; rintro _ w7 ⟨rfl, hx7⟩; obtain ⟨w8, hst, h8, hx8⟩ := newC w7 (applyV s q.nv.f q.nv.col ⟨v1, d1, s1⟩).1; have HX8 := Lib.hid (hx7.trans hx8); clear hx7 h8 hx8)
            clear hst l1 l2 l3 l4
            go_wp2_with fail
            all_goals go_ret
            all_goals exact ⟨by simp, (HXA.out.trans HXR.out).trans HX8.out⟩
theorem stays_arg (W : World) (v0 v1 v2 : Value) (h0 : ArgIs Try.prog W 33 v0) (h1 : ArgIs Try.prog W 40 v1) (h2 : ArgIs Try.prog W 40 v2) : Calls Try.prog 7 #[v0, v1, v2] W fun e w' => e = .returned (.bool true) ∧ Ext W w' := by
  obtain ⟨s, rfl⟩ := stIn h0
  obtain ⟨p, rfl⟩ := paintIn h1
  obtain ⟨q, rfl⟩ := paintIn h2
  exact stays_walk s p q W
end Go.Proofs.Ytagjjgookiodbaa
