/- Contract of ops.Apply. Conditions: each theorem's own premises. -/
import Derived.Test.YtgdcdkajicgliaaOps18
namespace Go.Proofs.Ytgdcdkajicgliaa
open Go.RowKit
set_option linter.unusedVariables false
set_option maxRecDepth 100000
set_option linter.unusedSimpArgs false
attribute [local go_sem ↓] Ld_V4 St_V4 Ld_St Ld_Sten St_Ce Ld_Ce St_Sten
attribute [local go_sem] idxM0 idxM1 idxM2 idxM3

set_option maxHeartbeats 8000000 in
set_option maxRecDepth 100000 in
theorem apply_any (s : St) (f : Fr) (color : V4) (c : Ce) (w : World) : Calls Try.prog 68 #[.agg s.C.toArray, .agg f.C.toArray, .agg color.C.toArray, .agg c.C.toArray] w fun e w' =>
    e = .returned (.tuple #[.agg (applyR s f color c).1.C.toArray, .bool (applyR s f color c).2.1, .int .i64 (applyR s f color c).2.2]) ∧ Ext w w' := by
  obtain ⟨w5, hw5, hs, hf, ho, hc, hr, hx⟩ := heap_five w (.cells s.C.toArray 42) (.cells f.C.toArray 55) (.cells color.C.toArray 26) (.cells c.C.toArray 45) (.cells #[.int .i32 0, .int .i32 0, .int .i32 0, .int .i32 0, .int .i32 0, .int .i64 0] 45)
  have HW := Lib.hid hw5
  clear hw5
  go_enter Try.func68, Try.ntmps68
  go_upto_region 1 with fail
  rw [HW.out]
  have HB : Hid (w.heap.size ≤ w.heap.size) := Lib.hid (Nat.le_refl _)
  generalize hb0 : w.heap.size = b0 at hs hf ho hc hr ⊢
  have HB0 := Lib.hid hb0
  clear hb0 HB HW
  have hl1 := StAt.load hs
  have n0 := heap_lt hs
  have n1 := heap_lt hf
  have n2 := heap_lt ho
  have n3 := heap_lt hc
  have n4 := heap_lt hr
  have HS : Hid (StAt w5 b0 s) := Lib.hid hs
  have HF : Hid (FAt w5 (b0 + 1) f) := Lib.hid hf
  have HO : Hid (VAt w5 (b0 + 1 + 1) color) := Lib.hid ho
  have HC : Hid (CAt w5 (b0 + 1 + 1 + 1) c) := Lib.hid hc
  have HR : Hid (CAt w5 (b0 + 1 + 1 + 1 + 1) ceZ) := Lib.hid hr
  have HX := Lib.hid hx
  clear hs hf ho hc hr hx
  cases hok : stOk s
  · have HCK : ∀ w, Calls Try.prog 58 #[.agg s.C.toArray] w fun e w' => e = .returned (.int .i64 340) ∧ Ext w w' := fun w => by have := check_any s w; rw [hok] at this; exact this
    have HCK := Lib.hid HCK
    have HV := Lib.hid (applyR_not hok f color c)
    clear hok
    go_upto_region 2 with (go_at_call 58; refine (HCK.out _).mono ?_; rintro _ w6 ⟨rfl, hx6⟩; have HX6 := Lib.hid hx6)
    have h6 := HR.out.ext HX6.out
    have hst := h6.store0
    have hsd := Lib.hid (h6.stored ceZ)
    have n6 := heap_lt h6
    clear h6
    go_wp2_with fail
    have hload := run_loadVar_whole (P := Try.prog) 45 _ hsd.out Try.underlying45 rfl rfl
    refine bodyPost_ret (results_cell3' rfl _ _ _ _ rfl hload (.bool false) (.int .i64 340) rfl rfl) rfl ?_
    exact ⟨by rw [HV.out], (HX.out.trans HX6.out).chgTrans (chg_setCells (b := b0 + 1 + 1 + 1 + 1) (M := [b0 + 1 + 1 + 1 + 1]) (by simp) _ 0 w6 (Chg.refl _ _)) (by rw [HB0.out]; simp; omega)⟩
  · have HCK : ∀ w, Calls Try.prog 58 #[.agg s.C.toArray] w fun e w' => e = .returned (.int .i64 0) ∧ Ext w w' := fun w => by have := check_any s w; rw [hok] at this; exact this
    have HCK := Lib.hid HCK
    have HOK := Lib.hid hok
    clear hok
    go_upto_region 3 with (go_at_call 58; refine (HCK.out _).mono ?_; rintro _ w6 ⟨rfl, hx6⟩; have HX6 := Lib.hid hx6)
    have hs6 := HS.out.ext HX6.out
    have hf6 := HF.out.ext HX6.out
    have ho6 := HO.out.ext HX6.out
    have hc6 := HC.out.ext HX6.out
    have hr6 := HR.out.ext HX6.out
    have HXA := Lib.hid (HX.out.trans HX6.out)
    clear HS HF HO HC HR HX n0 n1 n2 n3 n4 hl1 HCK hx6 HX6
    have n0 := heap_lt hs6
    have n1 := heap_lt hf6
    have n2 := heap_lt ho6
    have n3 := heap_lt hc6
    have n4 := heap_lt hr6
    have HS := Lib.hid hs6
    have HF := Lib.hid hf6
    have HO := Lib.hid ho6
    have HC := Lib.hid hc6
    have HR := Lib.hid hr6
    have c4 : w6.cell? ⟨b0 + 1 + 1 + 1, 4, none⟩ = some (.int .i32 c.dep) := cell_of_heap hc6 rfl
    have c5 : w6.cell? ⟨b0 + 1 + 1 + 1, 5, none⟩ = some (.int .i64 c.sten) := cell_of_heap hc6 rfl
    have HK := Lib.hid hc6.cellV
    clear hs6 hf6 ho6 hc6 hr6
    obtain ⟨B, hB⟩ : ∃ B, B = !ceOk c := ⟨_, rfl⟩
    have HBv := Lib.hid hB
    clear hB
    go_cut [22] (fun v wc => v = .bool B ∧ w6 = wc)
    case first =>
      have hh := Lib.hid (show B = (!inV c.sten 0 255 || outV c.dep || c.v.L.any outV) by rw [HBv.out]; unfold ceOk; simp [Bool.or_assoc])
      cases hi : inV c.sten 0 255
      · go_wp2_with (first
          | (go_at_call 86; refine (in_any _ _ _ _).mono ?_; rintro _ _ ⟨rfl, rfl⟩)
          | (go_at_call 88; refine (outside_any _ _).mono ?_; rintro _ _ ⟨rfl, rfl⟩)
          | (go_at_call 87; refine (containsOut_any _ _ c.v.L rfl _ HK.out).mono ?_; rintro _ _ ⟨rfl, rfl⟩))
        go_meet
        exact ⟨by rw [hh.out, hi]; rfl, rfl⟩
      · cases hd : outV c.dep
        · cases ha : c.v.L.any outV
          · go_wp2_with (first
              | (go_at_call 86; refine (in_any _ _ _ _).mono ?_; rintro _ _ ⟨rfl, rfl⟩)
              | (go_at_call 88; refine (outside_any _ _).mono ?_; rintro _ _ ⟨rfl, rfl⟩)
              | (go_at_call 87; refine (containsOut_any _ _ c.v.L rfl _ HK.out).mono ?_; rintro _ _ ⟨rfl, rfl⟩))
            go_meet
            exact ⟨by rw [hh.out, hi, hd, ha]; rfl, rfl⟩
          · go_wp2_with (first
              | (go_at_call 86; refine (in_any _ _ _ _).mono ?_; rintro _ _ ⟨rfl, rfl⟩)
              | (go_at_call 88; refine (outside_any _ _).mono ?_; rintro _ _ ⟨rfl, rfl⟩)
              | (go_at_call 87; refine (containsOut_any _ _ c.v.L rfl _ HK.out).mono ?_; rintro _ _ ⟨rfl, rfl⟩))
            go_meet
            exact ⟨by rw [hh.out, hi, hd, ha]; rfl, rfl⟩
        · go_wp2_with (first
            | (go_at_call 86; refine (in_any _ _ _ _).mono ?_; rintro _ _ ⟨rfl, rfl⟩)
            | (go_at_call 88; refine (outside_any _ _).mono ?_; rintro _ _ ⟨rfl, rfl⟩)
            | (go_at_call 87; refine (containsOut_any _ _ c.v.L rfl _ HK.out).mono ?_; rintro _ _ ⟨rfl, rfl⟩))
          go_meet
          exact ⟨by rw [hh.out, hi, hd]; rfl, rfl⟩
    case rest =>
      obtain ⟨rfl, rfl⟩ := hcut
      cases B
      rotate_left
      · have hco : ceOk c = false := by have := HBv.out; revert this; cases ceOk c <;> decide
        have HV := Lib.hid (applyR_arg HOK.out hco f color)
        have hst := HR.out.store0
        have hsd := Lib.hid (HR.out.stored ceZ)
        clear hco
        go_wp2_with fail
        have hload := run_loadVar_whole (P := Try.prog) 45 _ hsd.out Try.underlying45 rfl rfl
        refine bodyPost_ret (results_cell3' rfl _ _ _ _ rfl hload (.bool false) (.int .i64 2) rfl rfl) rfl ?_
        exact ⟨by rw [HV.out], (HXA.out).chgTrans (chg_setCells (b := b0 + 1 + 1 + 1 + 1) (M := [b0 + 1 + 1 + 1 + 1]) (by simp) _ 0 w6 (Chg.refl _ _)) (by rw [HB0.out]; simp; omega)⟩
      · have hco : ceOk c = true := by have := HBv.out; revert this; cases ceOk c <;> decide
        have HV := Lib.hid (applyR_ok HOK.out hco f color)
        have HCO := Lib.hid hco
        clear hco c4 c5 HK
        have hdep := ceOk_dep HCO.out
        have HDEP := Lib.hid hdep
        clear hdep
        go_upto_region 5 with fail
        have d0 : w6.cell? ⟨b0, 0, none⟩ = some (.bool s.sc) := cell_of_heap HS.out rfl
        have d1 : w6.cell? ⟨b0, 1, none⟩ = some (.int .i64 s.x) := cell_of_heap HS.out rfl
        have d2 : w6.cell? ⟨b0, 2, none⟩ = some (.int .i64 s.y) := cell_of_heap HS.out rfl
        have d3 : w6.cell? ⟨b0, 3, none⟩ = some (.int .i64 s.w) := cell_of_heap HS.out rfl
        have d4 : w6.cell? ⟨b0, 4, none⟩ = some (.int .i64 s.h) := cell_of_heap HS.out rfl
        have d5 : w6.cell? ⟨b0 + 1, 0, none⟩ = some (.int .i64 f.x) := cell_of_heap HF.out rfl
        have d6 : w6.cell? ⟨b0 + 1, 1, none⟩ = some (.int .i64 f.y) := cell_of_heap HF.out rfl
        obtain ⟨B, hB⟩ : ∃ B, (s.sc && !boxV s f) = B := ⟨_, rfl⟩
        have HB5 := Lib.hid hB
        clear hB
        go_cut [38] (fun v wc => v = .bool B ∧ w6 = wc)
        case first =>
          cases hsc : s.sc
          · go_wp2_with fail
            go_meet
            exact ⟨by rw [← HB5.out, hsc]; rfl, rfl⟩
          · cases h1 : liesV f.x s.x s.w
            · go_wp2_with (go_at_call 96; refine (lies_any _ _ _ _).mono ?_; rintro _ _ ⟨rfl, rfl⟩)
              go_meet
              exact ⟨by rw [← HB5.out, hsc]; unfold boxV; rw [h1]; rfl, rfl⟩
            · cases h2 : liesV f.y s.y s.h
              · go_wp2_with (go_at_call 96; refine (lies_any _ _ _ _).mono ?_; rintro _ _ ⟨rfl, rfl⟩)
                go_meet
                exact ⟨by rw [← HB5.out, hsc]; unfold boxV; rw [h1, h2]; rfl, rfl⟩
              · go_wp2_with (go_at_call 96; refine (lies_any _ _ _ _).mono ?_; rintro _ _ ⟨rfl, rfl⟩)
                go_meet
                exact ⟨by rw [← HB5.out, hsc]; unfold boxV; rw [h1, h2]; rfl, rfl⟩
        case rest =>
          obtain ⟨rfl, rfl⟩ := hcut
          clear d0 d1 d2 d3 d4 d5 d6
          cases B
          rotate_left
          · have HCX := HC
            have HRX := HR
            have HXX := HXA
            clear HS HF HO HC HR
            have hld := HCX.out.load2
            have hst := HRX.out.store2 c
            have hsd := Lib.hid (HRX.out.stored c)
            have k0 := heap_lt HCX.out
            have k1 := heap_lt HRX.out
            go_wp2_with fail
            have hload := run_loadVar_whole (P := Try.prog) 45 _ hsd.out Try.underlying45 rfl rfl
            refine bodyPost_ret (results_cell3' rfl _ _ _ _ rfl hload (.bool false) (.int .i64 0) rfl rfl) rfl ?_
            exact ⟨by rw [HV.out, applyV_box HB5.out], HXX.out.chgTrans (chg_setCells (b := b0 + 1 + 1 + 1 + 1) (M := [b0 + 1 + 1 + 1 + 1]) (by simp) _ 0 w6 (Chg.refl _ _)) (by rw [HB0.out]; simp; omega)⟩
          · have hlb := HS.out.loadB
            have ht0 : TAt (w6.alloc (.cells #[.int .i64 0, .int .i64 0, .int .i64 0, .int .i64 0, .int .i64 0, .int .i64 0, .int .i64 0] 37)) w6.heap.size sten0 := heap_alloc_new _ _
            have hst := ht0.store2 s.b
            have ht1 := ht0.stored s.b
            have hx7 : Ext w6 ((w6.alloc (.cells #[.int .i64 0, .int .i64 0, .int .i64 0, .int .i64 0, .int .i64 0, .int .i64 0, .int .i64 0] 37)).setCells w6.heap.size 0 s.b.C) := ((Ext.refl _).alloc _).chgTrans (chg_setCells (b := w6.heap.size) (M := [w6.heap.size]) (by simp) _ 0 _ (Chg.refl _ _)) (by simp)
            have HT1 := Lib.hid ht1
            have HX7 := Lib.hid hx7
            clear ht0 ht1 hx7
            go_upto_region 8 with fail
            clear hst hlb
            have hbw := HXA.out.size
            rw [HB0.out] at hbw
            have HBW := Lib.hid hbw
            clear hbw
            generalize hw7 : (w6.alloc (.cells #[.int .i64 0, .int .i64 0, .int .i64 0, .int .i64 0, .int .i64 0, .int .i64 0, .int .i64 0] 37)).setCells w6.heap.size 0 s.b.C = w7 at *
            clear hw7
            generalize w6.heap.size = bt at *
            have hs7 := HS.out.ext HX7.out
            have hf7 := HF.out.ext HX7.out
            have ho7 := HO.out.ext HX7.out
            have hc7 := HC.out.ext HX7.out
            have hr7 := HR.out.ext HX7.out
            have ht7 : TAt w7 bt s.b := HT1.out
            have HX7w := Lib.hid (HXA.out.trans HX7.out)
            have e0 : w7.cell? ⟨b0 + 1, 4, none⟩ = some (.bool f.front) := cell_of_heap hf7 rfl
            have nt := heap_lt ht7
            have m0 := heap_lt hs7
            have m1 := heap_lt hf7
            have hlf := hs7.loadF
            have hst := ht7.store2 s.f
            clear HS HF HO HC HR HXA HX7 HT1
            go_upto_if 68 with fail
            go_cut [] (fun wc => TAt wc bt (sideV s f) ∧ Chg [bt] w7 wc)
            case first =>
              have HT7 := Lib.hid ht7
              clear hs7 hf7 ho7 hc7 hr7 ht7
              cases hfr : f.front
              · go_wp2_with fail
                go_meet
                exact ⟨by unfold sideV; rw [hfr]; exact HT7.out, Chg.refl _ _⟩
              · go_wp2_with fail
                go_meet
                exact ⟨by unfold sideV; rw [hfr]; exact HT7.out.stored s.f, chg_setCells (by simp) _ _ _ (Chg.refl _ _)⟩
            case rest =>
              obtain ⟨ht, hch⟩ := hcut
              rename World => w8
              have HT := Lib.hid ht
              have HS := Lib.hid (hs7.chg hch (by simp; omega))
              have HF := Lib.hid (hf7.chg hch (by simp; omega))
              have HO := Lib.hid (ho7.chg hch (by simp; omega))
              have HC := Lib.hid (hc7.chg hch (by simp; omega))
              have HR := Lib.hid (hr7.chg hch (by simp; omega))
              have HXA := Lib.hid (HX7w.out.chgTrans hch (by rw [HB0.out]; simp; exact HBW.out))
              clear hs7 hf7 ho7 hc7 hr7 ht7 ht hch HX7w e0 nt m0 m1 hlf hst n0 n1 n2 n3 n4
              have hT : sideV s f = sideV s f := rfl
              generalize hTT : sideV s f = T at *
              have HTT := Lib.hid hTT
              clear hTT hT
              have n0 := heap_lt HS.out
              have n1 := heap_lt HC.out
              have n2 := heap_lt HT.out
              have n3 := heap_lt HF.out
              have n4 := heap_lt HO.out
              have n5 := heap_lt HR.out
              have d0 : w8.cell? ⟨b0, 5, none⟩ = some (.bool s.st) := cell_of_heap HS.out rfl
              have d1 : w8.cell? ⟨bt, 0, none⟩ = some (.int .i64 T.fn) := cell_of_heap HT.out rfl
              have d2 : w8.cell? ⟨bt, 1, none⟩ = some (.int .i64 T.rf) := cell_of_heap HT.out rfl
              have d3 : w8.cell? ⟨bt, 2, none⟩ = some (.int .i64 T.mask) := cell_of_heap HT.out rfl
              have d4 : w8.cell? ⟨b0 + 1 + 1 + 1, 5, none⟩ = some (.int .i64 c.sten) := cell_of_heap HC.out rfl
              have g4 : w8.cell? ⟨bt, 4, none⟩ = some (.int .i64 T.fl) := cell_of_heap HT.out rfl
              have g5 : w8.cell? ⟨bt, 5, none⟩ = some (.int .i64 T.zf) := cell_of_heap HT.out rfl
              have g6 : w8.cell? ⟨bt, 6, none⟩ = some (.int .i64 T.zp) := cell_of_heap HT.out rfl
              go_upto_region 11 with fail
              obtain ⟨B, hB⟩ : ∃ B, (s.st && !testV T c) = B := ⟨_, rfl⟩
              have HB11 := Lib.hid hB
              clear hB
              go_cut [89] (fun v wc => v = .bool B ∧ w8 = wc)
              case first =>
                cases hst : s.st
                · go_wp2_with fail
                  go_meet
                  exact ⟨by rw [← HB11.out, hst]; rfl, rfl⟩
                · go_wp2_with (go_at_call 99; refine (compare_any _ _ _ _).mono ?_; rintro _ _ ⟨rfl, rfl⟩)
                  go_meet
                  exact ⟨by rw [← HB11.out, hst]; rfl, rfl⟩
              case rest =>
                obtain ⟨rfl, rfl⟩ := hcut
                clear d0 d1 d2 d3 d4
                cases B
                rotate_left
                · go_upto_region 13 with (go_at_call 97; refine (turn1_any T.fl s T c b0 (b0 + 1 + 1 + 1) bt w8 HS.out HC.out HT.out).mono ?_; rintro _ w9 ⟨⟨_, rfl⟩, hc9, hch9⟩; have HC9 := Lib.hid hc9; have HCH9 := Lib.hid hch9; clear hc9 hch9)
                  have HCX := HC9
                  have HRX := Lib.hid (HR.out.chg HCH9.out (by simp))
                  have HXX := Lib.hid (HXA.out.chgTrans HCH9.out (by rw [HB0.out]; simp; omega))
                  clear HS HF HO HC HR HT
                  have hld := HCX.out.load2
                  have hst := HRX.out.store2 (turned s.st T.fl T c)
                  have hsd := Lib.hid (HRX.out.stored (turned s.st T.fl T c))
                  have k0 := heap_lt HCX.out
                  have k1 := heap_lt HRX.out
                  go_wp2_with fail
                  have hload := run_loadVar_whole (P := Try.prog) 45 _ hsd.out Try.underlying45 rfl rfl
                  refine bodyPost_ret (results_cell3' rfl _ _ _ _ rfl hload (.bool false) (.int .i64 0) rfl rfl) rfl ?_
                  exact ⟨by rw [HV.out, applyV_st HB5.out (by rw [HTT.out]; exact HB11.out), HTT.out], HXX.out.chgTrans (chg_setCells (b := b0 + 1 + 1 + 1 + 1) (M := [b0 + 1 + 1 + 1 + 1]) (by simp) _ 0 w9 (Chg.refl _ _)) (by rw [HB0.out]; simp; omega)⟩
                · clear g4
                  have d0 : w8.cell? ⟨b0 + 1, 2, none⟩ = some (.int .i32 f.z) := cell_of_heap HF.out rfl
                  obtain ⟨Z, hZ⟩ : ∃ Z, clV f.z = Z := ⟨_, rfl⟩
                  have HZ := Lib.hid hZ
                  have HCLP : ∀ w, Calls Try.prog 100 #[.int .i32 f.z, .int .i32 0, .int .i32 65536] w fun e w' => e = .returned (.int .i32 Z) ∧ w = w' := fun w => by rw [← hZ]; exact clampfix_any _ _ _ _
                  have hz1 : 0 ≤ Z := by rw [← hZ]; exact (clV_in _).1
                  have hz2 : Z ≤ 65536 := by rw [← hZ]; exact (clV_in _).2
                  have hd1 := HDEP.out.1
                  have hd2 := HDEP.out.2
                  have HCLP := Lib.hid HCLP
                  clear hZ
                  go_upto_region 15 with (go_at_call 100; refine (HCLP.out _).mono ?_; rintro _ _ ⟨rfl, rfl⟩)
                  clear d0
                  have d0 : w8.cell? ⟨b0, 20, none⟩ = some (.bool s.dt) := cell_of_heap HS.out rfl
                  have d1 : w8.cell? ⟨b0, 22, none⟩ = some (.int .i64 s.df) := cell_of_heap HS.out rfl
                  have d2 : w8.cell? ⟨b0 + 1 + 1 + 1, 4, none⟩ = some (.int .i32 c.dep) := cell_of_heap HC.out rfl
                  obtain ⟨B, hB⟩ : ∃ B, (s.dt && !cmpV s.df (clV f.z) c.dep) = B := ⟨_, rfl⟩
                  have HB15 := Lib.hid hB
                  clear hB
                  go_cut [110] (fun v wc => v = .bool B ∧ w8 = wc)
                  case first =>
                    cases hdt : s.dt
                    · go_wp2_with fail
                      go_meet
                      exact ⟨by rw [← HB15.out, hdt]; rfl, rfl⟩
                    · go_wp2_with (go_at_call 99; refine (compare_any _ _ _ _).mono ?_; rintro _ _ ⟨rfl, rfl⟩)
                      go_meet
                      exact ⟨by rw [← HB15.out, hdt, HZ.out]; rfl, rfl⟩
                  case rest =>
                    obtain ⟨rfl, rfl⟩ := hcut
                    clear d0 d1 d2 hz1 hz2 hd1 hd2
                    cases B
                    rotate_left
                    · clear g6
                      go_upto_region 17 with (go_at_call 97; refine (turn1_any T.zf s T c b0 (b0 + 1 + 1 + 1) bt w8 HS.out HC.out HT.out).mono ?_; rintro _ w9 ⟨⟨_, rfl⟩, hc9, hch9⟩; have HC9 := Lib.hid hc9; have HCH9 := Lib.hid hch9; clear hc9 hch9)
                      have HCX := HC9
                      have HRX := Lib.hid (HR.out.chg HCH9.out (by simp))
                      have HXX := Lib.hid (HXA.out.chgTrans HCH9.out (by rw [HB0.out]; simp; omega))
                      clear HS HF HO HC HR HT
                      have hld := HCX.out.load2
                      have hst := HRX.out.store2 (turned s.st T.zf T c)
                      have hsd := Lib.hid (HRX.out.stored (turned s.st T.zf T c))
                      have k0 := heap_lt HCX.out
                      have k1 := heap_lt HRX.out
                      go_wp2_with fail
                      have hload := run_loadVar_whole (P := Try.prog) 45 _ hsd.out Try.underlying45 rfl rfl
                      refine bodyPost_ret (results_cell3' rfl _ _ _ _ rfl hload (.bool false) (.int .i64 0) rfl rfl) rfl ?_
                      exact ⟨by rw [HV.out, applyV_dt HB5.out (by rw [HTT.out]; exact HB11.out) HB15.out, HTT.out], HXX.out.chgTrans (chg_setCells (b := b0 + 1 + 1 + 1 + 1) (M := [b0 + 1 + 1 + 1 + 1]) (by simp) _ 0 w9 (Chg.refl _ _)) (by rw [HB0.out]; simp; omega)⟩
                    · clear g5
                      go_upto_region 19 with (go_at_call 97; refine (turn1_any T.zp s T c b0 (b0 + 1 + 1 + 1) bt w8 HS.out HC.out HT.out).mono ?_; rintro _ w9 ⟨⟨_, rfl⟩, hc9, hch9⟩; have HC9 := Lib.hid hc9; have HCH9 := Lib.hid hch9; clear hc9 hch9)
                      have HS2 := Lib.hid (HS.out.chg HCH9.out (by simp; omega))
                      have HO2 := Lib.hid (HO.out.chg HCH9.out (by simp))
                      have HR2 := Lib.hid (HR.out.chg HCH9.out (by simp))
                      have HXX := Lib.hid (HXA.out.chgTrans HCH9.out (by rw [HB0.out]; simp; omega))
                      clear HS HF HO HC HR HT g6 n0 n1 n2 n3 n4 n5 HCH9
                      have n0 := heap_lt HS2.out
                      have n1 := heap_lt HC9.out
                      have n4 := heap_lt HO2.out
                      have n5 := heap_lt HR2.out
                      have d0 : w9.cell? ⟨b0, 20, none⟩ = some (.bool s.dt) := cell_of_heap HS2.out rfl
                      have d1 : w9.cell? ⟨b0, 21, none⟩ = some (.bool s.dw) := cell_of_heap HS2.out rfl
                      have HL : Hid (laidV s f (turned s.st T.zp T c) = laidV s f (turned s.st T.zp T c)) := Lib.hid rfl
                      generalize hcc : turned s.st T.zp T c = c1 at *
                      have HCC := Lib.hid hcc
                      clear hcc HL
                      obtain ⟨B, hB⟩ : ∃ B, (s.dt && s.dw) = B := ⟨_, rfl⟩
                      have HB19 := Lib.hid hB
                      clear hB
                      go_cut [125] (fun v wc => v = .bool B ∧ w9 = wc)
                      case first =>
                        cases hdt : s.dt
                        · go_wp2_with fail
                          go_meet
                          exact ⟨by rw [← HB19.out, hdt]; rfl, rfl⟩
                        · go_wp2_with fail
                          go_meet
                          exact ⟨by rw [← HB19.out, hdt]; rfl, rfl⟩
                      case rest =>
                        obtain ⟨rfl, rfl⟩ := hcut
                        clear d0 d1
                        have f4 : w9.frozen? ⟨b0 + 1 + 1 + 1, 4, none⟩ = false := free_of_heap HC9.out
                        have d4 : w9.cell? ⟨b0 + 1 + 1 + 1, 4, none⟩ = some (.int .i32 c1.dep) := cell_of_heap HC9.out rfl
                        go_upto_if 125 with fail
                        go_cut [] (fun wc => CAt wc (b0 + 1 + 1 + 1) (laidV s f c1) ∧ Chg [b0 + 1 + 1 + 1] w9 wc)
                        case first =>
                          cases B
                          · go_wp2_with fail
                            go_meet
                            exact ⟨by unfold laidV; rw [HB19.out]; exact HC9.out, Chg.refl _ _⟩
                          · go_wp2_with fail
                            go_meet
                            exact ⟨by unfold laidV; rw [HB19.out, HZ.out]; exact HC9.out.set4 Z, (Chg.refl _ _).setCell (by simp) _⟩
                        case rest =>
                          obtain ⟨hc10, hch⟩ := hcut
                          rename World => wT
                          clear f4 d4
                          generalize hcd : laidV s f c1 = c2 at *
                          have HCD := Lib.hid hcd
                          clear hcd
                          have hs10 := HS2.out.chg hch (by simp; omega)
                          have ho10 := HO2.out.chg hch (by simp)
                          have hr10 := HR2.out.chg hch (by simp)
                          have HX10 := Lib.hid (HXX.out.chgTrans hch (by rw [HB0.out]; simp; omega))
                          have HS := Lib.hid hs10
                          have HC := Lib.hid hc10
                          have HR := Lib.hid hr10
                          have l1 := hs10.load
                          have l2 := ho10.load2
                          have l3 := hc10.loadV
                          clear HS2 HO2 HR2 HC9 HXX hch n0 n1 n4 n5
                          have n0 := heap_lt hs10
                          have n1 := heap_lt hc10
                          have n4 := heap_lt ho10
                          have n5 := heap_lt hr10
                          clear hs10 hc10 ho10 hr10
                          obtain ⟨M, hM⟩ : ∃ M, mixV s color c2.v = M := ⟨_, rfl⟩
                          have HM := Lib.hid hM
                          have HMIX : ∀ w, Calls Try.prog 101 #[.agg s.C.toArray, .agg color.C.toArray, .agg c2.v.C.toArray] w fun e w' => e = .returned (.agg M.C.toArray) ∧ Ext w w' := fun w => by
                            have := mix_any s color c2.v w
                            rw [mixR_ok HOK.out, hM] at this
                            exact this
                          have HMIX := Lib.hid HMIX
                          clear hM
                          go_upto_region 22 with (go_at_call 101; refine (HMIX.out _).mono ?_; rintro _ w11 ⟨rfl, hx11⟩; have hst := VAt.store2 (v := zero4) (heap_alloc_new w11 (.cells #[.int .i32 0, .int .i32 0, .int .i32 0, .int .i32 0] 26)) M; have hsd := VAt.stored (v := zero4) (heap_alloc_new w11 (.cells #[.int .i32 0, .int .i32 0, .int .i32 0, .int .i32 0] 26)) M; have HX11 := Lib.hid hx11; have HSD := Lib.hid hsd; clear hsd hx11)
                          have hx12 : Ext w11 ((w11.alloc (.cells #[.int .i32 0, .int .i32 0, .int .i32 0, .int .i32 0] 26)).setCells w11.heap.size 0 M.C) := ((Ext.refl _).alloc _).chgTrans (chg_setCells (b := w11.heap.size) (M := [w11.heap.size]) (by simp) _ 0 _ (Chg.refl _ _)) (by simp)
                          have HX12 := Lib.hid hx12
                          have hb11 := heap_lt (HR.out.ext HX11.out)
                          clear hst l1 l2 l3 hx12
                          generalize hw12 : (w11.alloc (.cells #[.int .i32 0, .int .i32 0, .int .i32 0, .int .i32 0] 26)).setCells w11.heap.size 0 M.C = w12 at *
                          clear hw12
                          generalize w11.heap.size = bm at *
                          have hs12 := (HS.out.ext HX11.out).ext HX12.out
                          have hc12 := (HC.out.ext HX11.out).ext HX12.out
                          have hr12 := (HR.out.ext HX11.out).ext HX12.out
                          have hm12 : VAt w12 bm M := HSD.out
                          have HXB := Lib.hid ((HX10.out.trans HX11.out).trans HX12.out)
                          clear HS HC HR HSD HX10 HX11 HX12 n0 n1 n4 n5
                          have n0 := heap_lt hs12
                          have q0 : w12.cell? ⟨b0, 34, none⟩ = some (.bool s.m0) := cell_of_heap hs12 rfl
                          have q1 : w12.cell? ⟨b0, 35, none⟩ = some (.bool s.m1) := cell_of_heap hs12 rfl
                          have q2 : w12.cell? ⟨b0, 36, none⟩ = some (.bool s.m2) := cell_of_heap hs12 rfl
                          have q3 : w12.cell? ⟨b0, 37, none⟩ = some (.bool s.m3) := cell_of_heap hs12 rfl
                          have HM12 := Lib.hid hm12
                          have HR12 := Lib.hid hr12
                          clear hs12 hm12 hr12
                          go_upto_region 23 with fail
                          go_loopw [135] (fun i wq => ∃ m : Nat, (m = 0 ∨ m = 1 ∨ m = 2 ∨ m = 3 ∨ m = 4) ∧ i = .int .i64 m ∧ CAt wq (b0 + 1 + 1 + 1) (pkS s M c2 m) ∧ Chg [b0 + 1 + 1 + 1] w12 wq) (fun i _ => (4 - intOf i).toNat)
                          case atStart => exact ⟨0, by decide, rfl, hc12, Chg.refl _ _⟩
                          case round =>
                            clear hc12 n0 q0 q1 q2 q3
                            obtain ⟨m, hm, rfl, hv, hch⟩ := hrel
                            have HMR := Lib.hid (HM12.out.chg hch (by simp; omega))
                            have HRR := Lib.hid (HR12.out.chg hch (by simp))
                            have HXR := Lib.hid (HXB.out.chgTrans hch (by rw [HB0.out]; simp; omega))
                            have HVR := Lib.hid hv
                            have HCHR := Lib.hid hch
                            clear hv hch HM12 HR12 HXB hb11
                            rcases hm with rfl | rfl | rfl | rfl | rfl
                            · have c0 := HMR.out.at 0 (by decide)
                              have c1' : wr.cell? ⟨b0 + 1 + 1 + 1, 0, none⟩ = some (.int .i32 (pkS s M c2 0).v.a) := cell_of_heap HVR.out rfl
                              have fz : wr.frozen? ⟨b0 + 1 + 1 + 1, 0, none⟩ = false := free_of_heap HVR.out
                              have lm := heap_lt HMR.out
                              have lv := heap_lt HVR.out
                              cases hmm : s.m0
                              · have HE := Lib.hid (show pkS s M c2 1 = pkS s M c2 0 by simp only [pkS, pickV]; rw [hmm]; rfl)
                                go_wp2_with fail
                                go_roundw
                                case rel => exact ⟨1, by decide, rfl, by rw [HE.out]; exact HVR.out, HCHR.out⟩
                                case measure => simp [intOf]
                              · have HE := Lib.hid (show pkS s M c2 1 = { pkS s M c2 0 with v := { (pkS s M c2 0).v with a := M.a } } by simp only [pkS, pickV]; rw [hmm]; rfl)
                                go_wp2_with fail
                                go_roundw
                                case rel => exact ⟨1, by decide, rfl, by rw [HE.out]; exact HVR.out.set0 M.a, HCHR.out.setCell (by simp) _⟩
                                case measure => simp [intOf]
                            · have c0 := HMR.out.at 1 (by decide)
                              have c1' : wr.cell? ⟨b0 + 1 + 1 + 1, 1, none⟩ = some (.int .i32 (pkS s M c2 1).v.b) := cell_of_heap HVR.out rfl
                              have fz : wr.frozen? ⟨b0 + 1 + 1 + 1, 1, none⟩ = false := free_of_heap HVR.out
                              have lm := heap_lt HMR.out
                              have lv := heap_lt HVR.out
                              cases hmm : s.m1
                              · have HE := Lib.hid (show pkS s M c2 2 = pkS s M c2 1 by simp only [pkS, pickV]; rw [hmm]; rfl)
                                go_wp2_with fail
                                go_roundw
                                case rel => exact ⟨2, by decide, rfl, by rw [HE.out]; exact HVR.out, HCHR.out⟩
                                case measure => simp [intOf]
                              · have HE := Lib.hid (show pkS s M c2 2 = { pkS s M c2 1 with v := { (pkS s M c2 1).v with b := M.b } } by simp only [pkS, pickV]; rw [hmm]; rfl)
                                go_wp2_with fail
                                go_roundw
                                case rel => exact ⟨2, by decide, rfl, by rw [HE.out]; exact HVR.out.set1 M.b, HCHR.out.setCell (by simp) _⟩
                                case measure => simp [intOf]
                            · have c0 := HMR.out.at 2 (by decide)
                              have c1' : wr.cell? ⟨b0 + 1 + 1 + 1, 2, none⟩ = some (.int .i32 (pkS s M c2 2).v.c) := cell_of_heap HVR.out rfl
                              have fz : wr.frozen? ⟨b0 + 1 + 1 + 1, 2, none⟩ = false := free_of_heap HVR.out
                              have lm := heap_lt HMR.out
                              have lv := heap_lt HVR.out
                              cases hmm : s.m2
                              · have HE := Lib.hid (show pkS s M c2 3 = pkS s M c2 2 by simp only [pkS, pickV]; rw [hmm]; rfl)
                                go_wp2_with fail
                                go_roundw
                                case rel => exact ⟨3, by decide, rfl, by rw [HE.out]; exact HVR.out, HCHR.out⟩
                                case measure => simp [intOf]
                              · have HE := Lib.hid (show pkS s M c2 3 = { pkS s M c2 2 with v := { (pkS s M c2 2).v with c := M.c } } by simp only [pkS, pickV]; rw [hmm]; rfl)
                                go_wp2_with fail
                                go_roundw
                                case rel => exact ⟨3, by decide, rfl, by rw [HE.out]; exact HVR.out.set2 M.c, HCHR.out.setCell (by simp) _⟩
                                case measure => simp [intOf]
                            · have c0 := HMR.out.at 3 (by decide)
                              have c1' : wr.cell? ⟨b0 + 1 + 1 + 1, 3, none⟩ = some (.int .i32 (pkS s M c2 3).v.d) := cell_of_heap HVR.out rfl
                              have fz : wr.frozen? ⟨b0 + 1 + 1 + 1, 3, none⟩ = false := free_of_heap HVR.out
                              have lm := heap_lt HMR.out
                              have lv := heap_lt HVR.out
                              cases hmm : s.m3
                              · have HE := Lib.hid (show pkS s M c2 4 = pkS s M c2 3 by simp only [pkS, pickV]; rw [hmm]; rfl)
                                go_wp2_with fail
                                go_roundw
                                case rel => exact ⟨4, by decide, rfl, by rw [HE.out]; exact HVR.out, HCHR.out⟩
                                case measure => simp [intOf]
                              · have HE := Lib.hid (show pkS s M c2 4 = { pkS s M c2 3 with v := { (pkS s M c2 3).v with d := M.d } } by simp only [pkS, pickV]; rw [hmm]; rfl)
                                go_wp2_with fail
                                go_roundw
                                case rel => exact ⟨4, by decide, rfl, by rw [HE.out]; exact HVR.out.set3 M.d, HCHR.out.setCell (by simp) _⟩
                                case measure => simp [intOf]
                            · have HPASS := Lib.hid (show passV s f color c = pkS s M c2 4 by
                                show ({ laidV s f (turned s.st (sideV s f).zp (sideV s f) c) with v := pickV s (mixV s color (laidV s f (turned s.st (sideV s f).zp (sideV s f) c)).v) (laidV s f (turned s.st (sideV s f).zp (sideV s f) c)).v } : Ce) = _
                                rw [HTT.out, HCC.out, HCD.out, HM.out]
                                rfl)
                              have HCX : Hid (CAt wr (b0 + 1 + 1 + 1) (pkS s M c2 4)) := Lib.hid HVR.out
                              have HRX := HRR
                              have HXX := HXR
                              clear HVR HRR HXR HMR HCHR
                              generalize pkS s M c2 4 = cz at *
                              have hld := HCX.out.load2
                              have hst := HRX.out.store2 cz
                              have hsd := Lib.hid (HRX.out.stored cz)
                              have k0 := heap_lt HCX.out
                              have k1 := heap_lt HRX.out
                              go_wp2_with fail
                              have hload := run_loadVar_whole (P := Try.prog) 45 _ hsd.out Try.underlying45 rfl rfl
                              refine bodyPost_ret (results_cell3' rfl _ _ _ _ rfl hload (.bool true) (.int .i64 0) rfl rfl) rfl ?_
                              exact ⟨by rw [HV.out, applyV_pass HB5.out (by rw [HTT.out]; exact HB11.out) HB15.out, HPASS.out], HXX.out.chgTrans (chg_setCells (b := b0 + 1 + 1 + 1 + 1) (M := [b0 + 1 + 1 + 1 + 1]) (by simp) _ 0 wr (Chg.refl _ _)) (by rw [HB0.out]; simp; omega)⟩
end Go.Proofs.Ytgdcdkajicgliaa
