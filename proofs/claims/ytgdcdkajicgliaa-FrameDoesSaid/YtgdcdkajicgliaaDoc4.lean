/- The document's May and Paint. Conditions: each theorem's own premises. -/
import Derived.Test.YtgdcdkajicgliaaDoc3
import Derived.Test.YtgdcdkajicgliaaOps20
import Derived.Test.YtgdcdkajicgliaaFraT
namespace Go.Proofs.Ytgdcdkajicgliaa
open Go.RowKit
set_option linter.unusedVariables false
set_option linter.unusedSimpArgs false
set_option maxRecDepth 100000

section
attribute [local go_sem ↓] Ld_Bt St_Bt Ld_Ce St_Ce Ld_V4 Ld_Dp St_Dp Ld_St Ld_Fr2 St_V4
set_option maxHeartbeats 4000000 in
theorem dmay_any (c : Ce) (w : World) : Calls Try.prog 32 #[.agg c.C.toArray] w fun e w' => e = .returned (.bool (mayB c)) ∧ Ext w w' := by
  go_enter Try.func32, Try.ntmps32
  go_upto_region 1 with fail
  obtain ⟨w0, hw0, h0, hx0⟩ : ∃ w0, w.alloc (.cells c.C.toArray 45) = w0 ∧ CAt w0 w.heap.size c ∧ Ext w w0 := ⟨_, rfl, heap_alloc_new _ _, (Ext.refl _).alloc _⟩
  rw [hw0]
  obtain ⟨r, hr⟩ : ∃ r, w.heap.size = r := ⟨_, rfl⟩
  rw [hr] at h0
  rw [hr]
  have HX0 := Lib.hid hx0
  have H0 := Lib.hid h0
  clear hw0 h0 hx0 hr
  have HE : Hid (∀ k, k < 5 → w0.cell? ⟨r, k, none⟩ = some (.int .i32 (c.L5.getD k 0))) := Lib.hid fun k hk => cell_of_heap H0.out (by
    have : k = 0 ∨ k = 1 ∨ k = 2 ∨ k = 3 ∨ k = 4 := by omega
    rcases this with rfl | rfl | rfl | rfl | rfl <;> rfl)
  have n0 := heap_lt H0.out
  go_wp2_with fail
  go_loop [3] (fun i => ∃ k : Nat, k ≤ 4 ∧ i = .int .i64 k ∧ Hid (∀ j, j < k → n01 (c.L5.getD j 0) = true)) (fun i => 4 - (intOf i).toNat)
  case atStart => exact ⟨0, by omega, rfl, Lib.hid (fun j hj => by omega)⟩
  case round =>
    obtain ⟨k, hk, rfl, HK⟩ := hrel
    by_cases hlt : k < 4
    · have hki : (k : Int) < 4 := by omega
      have ek := HE.out k (by omega)
      obtain ⟨z, hz⟩ : ∃ z, c.L5.getD k 0 = z := ⟨_, rfl⟩
      have HZ := Lib.hid hz
      rw [hz] at ek
      clear hz
      by_cases z0 : z < 0
      · go_wp2_with fail
        go_ret
        exact ⟨by rw [mayB_bad (show k < 5 by omega) (by rw [HZ.out]; unfold n01; rw [decide_eq_false (by omega)]; rfl)]; rfl, HX0.out⟩
      · by_cases z1 : 65536 < z
        · go_wp2_with fail
          go_ret
          exact ⟨by rw [mayB_bad (show k < 5 by omega) (by rw [HZ.out]; unfold n01; rw [decide_eq_false (show ¬ z ≤ 65536 by omega), Bool.and_false])]; rfl, HX0.out⟩
        · have HK2 : Hid (∀ j, j < k + 1 → n01 (c.L5.getD j 0) = true) := Lib.hid (fun j hj => by
            by_cases e : j = k
            · subst e
              rw [HZ.out]
              unfold n01
              rw [decide_eq_true (show 0 ≤ z by omega), decide_eq_true (show z ≤ 65536 by omega)]
              rfl
            · exact HK.out j (by omega))
          go_wp2_with fail
          go_round
          case rel => exact ⟨k + 1, by omega, by go_num, HK2⟩
          case measure => simp [intOf]; omega
    · obtain rfl : k = 4 := by omega
      have c4 : w0.cell? ⟨r, 4, none⟩ = some (.int .i32 c.dep) := cell_of_heap H0.out rfl
      have c5 : w0.cell? ⟨r, 5, none⟩ = some (.int .i64 c.sten) := cell_of_heap H0.out rfl
      have HA : Hid (mayB c = (n01 c.dep && (decide (0 ≤ c.sten) && decide (c.sten ≤ 255)))) := Lib.hid (by
        have h0 := HK.out 0 (by omega)
        have h1 := HK.out 1 (by omega)
        have h2 := HK.out 2 (by omega)
        have h3 := HK.out 3 (by omega)
        unfold mayB
        rw [show c.L5.all n01 = (n01 c.v.a && (n01 c.v.b && (n01 c.v.c && (n01 c.v.d && (n01 c.dep && true))))) from rfl]
        rw [show n01 c.v.a = true from h0, show n01 c.v.b = true from h1, show n01 c.v.c = true from h2, show n01 c.v.d = true from h3]
        simp only [Bool.true_and, Bool.and_true])
      clear HK HE
      unfold n01 at HA
      by_cases d0 : 0 ≤ c.dep
      · by_cases d1 : c.dep ≤ 65536
        · by_cases s0 : 0 ≤ c.sten
          · by_cases s1 : c.sten ≤ 255
            all_goals
              go_wp2_with fail
              go_ret
              exact ⟨by rw [HA.out]; simp [d0, d1, s0, s1] <;> (intros; omega), HX0.out⟩
          · go_wp2_with fail
            go_ret
            exact ⟨by rw [HA.out]; simp [d0, d1, s0] <;> (intros; omega), HX0.out⟩
        · go_wp2_with fail
          go_ret
          exact ⟨by rw [HA.out]; simp [d0, d1] <;> (intros; omega), HX0.out⟩
      · go_wp2_with fail
        go_ret
        exact ⟨by rw [HA.out]; simp [d0] <;> (intros; omega), HX0.out⟩
theorem heap5x (w : World) (A B C D E : Obj) : ∃ w5, ((((w.alloc A).alloc B).alloc C).alloc D).alloc E = w5 ∧ w5.heap[w.heap.size]? = some A ∧ w5.heap[w.heap.size + 1]? = some B ∧ w5.heap[w.heap.size + 1 + 1]? = some C ∧ w5.heap[w.heap.size + 1 + 1 + 1]? = some D ∧ w5.heap[w.heap.size + 1 + 1 + 1 + 1]? = some E ∧ Ext w w5 := by
  have x1 : ∀ (v : World) (X : Obj), Ext v (v.alloc X) := fun v X => (Ext.refl _).alloc _
  have hs : ∀ (v : World) (X : Obj), (v.alloc X).heap.size = v.heap.size + 1 := fun v X => World.size_alloc _ _
  have h1 := heap_alloc_new w A
  have h2 := heap_alloc_new (w.alloc A) B
  have h3 := heap_alloc_new ((w.alloc A).alloc B) C
  have h4 := heap_alloc_new (((w.alloc A).alloc B).alloc C) D
  have h5 := heap_alloc_new ((((w.alloc A).alloc B).alloc C).alloc D) E
  simp only [hs] at h2 h3 h4 h5
  have y4 := x1 ((((w.alloc A).alloc B).alloc C).alloc D) E
  have y3 := (x1 (((w.alloc A).alloc B).alloc C) D).trans y4
  have y2 := (x1 ((w.alloc A).alloc B) C).trans y3
  have y1 := (x1 (w.alloc A) B).trans y2
  exact ⟨_, rfl, y1.heap h1, y2.heap h2, y3.heap h3, y4.heap h4, h5, (x1 w A).trans y1⟩
/-- A whole block is stored anew. -/
theorem dp_put {w : World} {b : Nat} (h : w.heap[b]? = some (.cells #[.int .i64 0, .int .i64 0, .int .i64 0, .bool false, .bool false, .slice none 0 0] 76 (0, 0))) (P : Pl) {v : Value} (hv : v.oneCell' = true) : ∃ w', (@Classical.epsilon _ neG (StF 76 (.pointer (some ⟨b, 0, none⟩)) (.agg (P.D v).toArray))).run Try.prog w = .ok () w' ∧ DpAt w' b P v ∧ Chg [b] w w' := by
  obtain ⟨t1, t2, t3⟩ := stF_mid 76 (L := [.int .i64 0, .int .i64 0, .int .i64 0, .bool false, .bool false, .slice none 0 0]) h 0 (P.D v) (by simp [Pl.D]) (by kernel_rfl) (by have hv' := hv; unfold Value.oneCell' at hv'; simp [Pl.D, Value.oneCell'] at hv' ⊢; exact hv')
  have e : (List.take 0 [Value.int .i64 0, .int .i64 0, .int .i64 0, .bool false, .bool false, .slice none 0 0] ++ P.D v ++ List.drop (0 + (P.D v).length) [Value.int .i64 0, .int .i64 0, .int .i64 0, .bool false, .bool false, .slice none 0 0]) = P.D v := by simp [Pl.D]
  rw [e] at t2
  exact ⟨_, t1, t2, t3⟩
theorem DAt.one {G : Nat → Prop} {w : World} {v : Value} {P : Pl} {L : List Bt} (h : DAt G w v P L) : v.oneCell' = true := by
  obtain ⟨_, a, cap, rfl, _⟩ := h.r
  cases a <;> rfl
theorem dpaint_out (P : Pl) (v : Value) (hv : v.oneCell' = true) (s : St) (f : Fr) (color : V4) (hi : inP P.W P.H f.x f.y = false) (w : World) : Calls Try.prog 34 #[.agg (P.D v).toArray, .agg s.C.toArray, .agg f.C.toArray, .agg color.C.toArray] w fun e w' => e = .returned (.tuple #[.agg (P.D v).toArray, .bool false]) ∧ Ext w w' := by
  have HIN := Lib.hid (fun w => din_any P v f.x f.y w)
  rw [hi] at HIN
  have HV := Lib.hid hv
  clear hi hv
  obtain ⟨w5, hw5, h5a, h5b, h5c, h5d, h5e, hx5⟩ := heap5x w (.cells (P.D v).toArray 76) (.cells s.C.toArray 42) (.cells f.C.toArray 55) (.cells color.C.toArray 26) (.cells #[.int .i64 0, .int .i64 0, .int .i64 0, .bool false, .bool false, .slice none 0 0] 76)
  have HW5 := Lib.hid hw5
  clear hw5
  go_enter Try.func34, Try.ntmps34
  go_upto_region 1 with fail
  rw [HW5.out]
  obtain ⟨r, hr⟩ : ∃ r, w.heap.size = r := ⟨_, rfl⟩
  have HR := Lib.hid hr
  rw [hr] at h5a h5b h5c h5d h5e
  rw [hr]
  have lp := DpAt.load (show DpAt w5 r P v from h5a)
  have HP5 := Lib.hid (show DpAt w5 r P v from h5a)
  have H5 := Lib.hid h5e
  have HX5 := Lib.hid hx5
  have e0 : w5.cell? ⟨r + 1 + 1, 0, none⟩ = some (.int .i64 f.x) := cell_of_heap h5c rfl
  have e1 : w5.cell? ⟨r + 1 + 1, 1, none⟩ = some (.int .i64 f.y) := cell_of_heap h5c rfl
  have n0 := heap_lt h5a
  have n1 := heap_lt h5c
  clear h5a h5b h5c h5d h5e hx5 hr
  go_upto_region 2 with (go_at_call 31; refine (HIN.out _).mono ?_; rintro _ w6 ⟨rfl, hx6⟩)
  have hp6 := hx6.heap HP5.out
  have lp6 := DpAt.load (show DpAt w6 r P v from hp6)
  obtain ⟨w7, hst, hq, hc⟩ := dp_put (hx6.heap H5.out) P HV.out
  have HQ := Lib.hid hq
  have HX7 := Lib.hid ((HX5.out.trans hx6).chgTrans hc (by rw [HR.out]; simp; omega))
  clear hq hc hx6 lp e0 e1
  have n6 := heap_lt hp6
  clear hp6
  go_wp2_with fail
  have hload := run_loadVar_whole (P := Try.prog) 76 _ HQ.out Try.underlying76 rfl (by kernel_rfl)
  refine bodyPost_ret (results_cell2 rfl _ _ _ _ rfl hload) rfl ?_
  exact ⟨rfl, HX7.out⟩
theorem newCz (w : World) (u : Ce) : ∃ w', (@Classical.epsilon _ neU (StP 45 (.pointer (some ⟨w.heap.size, 0, none⟩)) (.agg u.C.toArray))).run Try.prog (w.alloc (.cells #[.int .i32 0, .int .i32 0, .int .i32 0, .int .i32 0, .int .i32 0, .int .i64 0] 45)) = .ok () w' ∧ CAt w' w.heap.size u ∧ Ext w w' :=
  putC (w7 := w) (w9 := w.alloc (.cells #[.int .i32 0, .int .i32 0, .int .i32 0, .int .i32 0, .int .i32 0, .int .i64 0] 45)) (heap_alloc_new _ _) ((Ext.refl _).alloc _) (Nat.le_refl _) u
set_option maxHeartbeats 8000000 in
theorem dpaint_in (G : Nat → Prop) (P : Pl) (v : Value) (L : List Bt) (s : St) (f : Fr) (color : V4) (hs : stOk s = true) (hi : inP P.W P.H f.x f.y = true) (w : World) (h : DAt G w v P L) (hG : ∀ k, w.heap.size ≤ k → G k) : Calls Try.prog 34 #[.agg (P.D v).toArray, .agg s.C.toArray, .agg f.C.toArray, .agg color.C.toArray] w fun e w' => ∃ v' L', e = .returned (.tuple #[.agg ((ptP s f color P).D v').toArray, .bool (ptV s f color P).2]) ∧ DAt G w' v' (ptP s f color P) L' ∧ Ext w w' := by
  have HIN := Lib.hid (fun w => din_any P v f.x f.y w)
  rw [hi] at HIN
  obtain ⟨i1, i2, i3, i4⟩ := inP_true hi
  obtain ⟨X, hX⟩ : ∃ X : Nat, f.x = X := ⟨f.x.toNat, by omega⟩
  obtain ⟨Y, hY⟩ : ∃ Y : Nat, f.y = Y := ⟨f.y.toNat, by omega⟩
  have hXW : X < P.W := by omega
  have hYH : Y < P.H := by omega
  have hI := place_lt hXW hYH
  have eX : f.x.toNat = X := by omega
  have eY : f.y.toNat = Y := by omega
  have HV : Hid (ptP s f color P = layV P (Y * P.W + X) (ptV s f color P).1) := Lib.hid (by unfold ptP; rw [eX, eY])
  have hV2 : ptV s f color P = applyV (sM s P) f color (cellV P (Y * P.W + X)) := by unfold ptV; rw [eX, eY]
  have hco := ceOk_of (cellV_ok h.ok hI)
  have hst := stays (s := sM s P) hs f color hco
  have HCE := Lib.hid (fun w' h' => dcell_any G P v L X Y hXW hYH w' h')
  have HAP : Hid (∀ w', Calls Try.prog 73 #[.agg (sM s P).C.toArray, .agg f.C.toArray, .agg color.C.toArray, .agg (cellV P (Y * P.W + X)).C.toArray] w' fun e w'' => e = .returned (.tuple #[.agg (ptV s f color P).1.C.toArray, .bool (ptV s f color P).2]) ∧ Ext w' w'') := Lib.hid fun w' => by
    have := rapply_any (sM s P) hs f color (cellV P (Y * P.W + X)) hco w'
    rw [hV2]
    exact this
  rw [← hV2] at hst
  have hok := ok_of_ceOk hst.ok
  have HLA : Hid (∀ w', Ext w w' → w.heap.size + 1 + 1 + 1 + 1 < w'.heap.size → Calls Try.prog 33 #[.agg (P.D v).toArray, .int .i64 X, .int .i64 Y, .agg (ptV s f color P).1.C.toArray] w' fun e w'' => ∃ v' L', e = .returned (.agg ((layV P (Y * P.W + X) (ptV s f color P).1).D v').toArray) ∧ (∀ w3, Chg [w.heap.size + 1 + 1 + 1 + 1] w'' w3 → DAt G w3 v' (layV P (Y * P.W + X) (ptV s f color P).1) L') ∧ v'.oneCell' = true ∧ Ext w' w'') := Lib.hid (fun w' x' hs' => by
    refine (dlay_any (fun k => G k ∧ k ≠ w.heap.size + 1 + 1 + 1 + 1) P v L X Y (ptV s f color P).1 hXW hYH hok.In (by have := hok.s; omega) w' ((h.mono (fun k hk hg => ⟨hg, by omega⟩)).ext x') (fun k hk => ⟨hG k (Nat.le_trans x'.size hk), by omega⟩)).mono ?_
    rintro e w'' ⟨v', L', he, hd, hx⟩
    exact ⟨v', L', he, fun w3 hc => (hd.chg hc (fun m hm hg => hg.2 (by simpa using hm))).mono (fun k _ hg => hg.1), hd.one, hx⟩)
  rw [← HV.out] at HLA
  have HH := Lib.hid h
  have HG := Lib.hid hG
  have HFX := Lib.hid (And.intro hX hY)
  generalize ptP s f color P = PP at *
  generalize ptV s f color P = PV at *
  generalize cellV P (Y * P.W + X) = ce at *
  generalize Y * P.W + X = I at *
  obtain ⟨pc, pb⟩ := PV
  have HONE := Lib.hid h.one
  obtain ⟨w5, hw5, h5a, h5b, h5c, h5d, h5e, hx5⟩ := heap5x w (.cells (P.D v).toArray 76) (.cells s.C.toArray 42) (.cells f.C.toArray 55) (.cells color.C.toArray 26) (.cells #[.int .i64 0, .int .i64 0, .int .i64 0, .bool false, .bool false, .slice none 0 0] 76)
  have HW5 := Lib.hid hw5
  clear hw5 hs hi h i1 i2 i3 i4 hXW hYH eX eY hV2 hst hco hI HV hok hG
  go_enter Try.func34, Try.ntmps34
  go_upto_region 1 with fail
  rw [HW5.out]
  obtain ⟨r, hr⟩ : ∃ r, w.heap.size = r := ⟨_, rfl⟩
  have HR := Lib.hid hr
  rw [hr] at h5a h5b h5c h5d h5e
  rw [hr]
  have lp := DpAt.load (show DpAt w5 r P v from h5a)
  have HP5 := Lib.hid (show DpAt w5 r P v from h5a)
  have H5 := Lib.hid h5e
  have HX5 := Lib.hid hx5
  have HS5 := Lib.hid (show StAt w5 (r + 1) s from h5b)
  have HF5 := Lib.hid (show FAt w5 (r + 1 + 1) f from h5c)
  have HV5 := Lib.hid (show VAt w5 (r + 1 + 1 + 1) color from h5d)
  have e0 : w5.cell? ⟨r + 1 + 1, 0, none⟩ = some (.int .i64 f.x) := cell_of_heap h5c rfl
  have e1 : w5.cell? ⟨r + 1 + 1, 1, none⟩ = some (.int .i64 f.y) := cell_of_heap h5c rfl
  have n0 := heap_lt h5a
  have n1 := heap_lt h5c
  clear h5a h5b h5c h5d h5e hx5 hr hX hY
  go_upto_region 3 with (go_at_call 31; refine (HIN.out _).mono ?_; rintro _ w6 ⟨rfl, hx6⟩)
  clear lp e0 e1 n0 n1
  have HX6 := Lib.hid (HX5.out.trans hx6)
  have HP6 := Lib.hid (hx6.heap HP5.out)
  have HS6 := Lib.hid (hx6.heap HS5.out)
  have HF6 := Lib.hid (HF5.out.ext hx6)
  have HV6 := Lib.hid (HV5.out.ext hx6)
  have H6 := Lib.hid (hx6.heap H5.out)
  clear hx6
  have p3 : w6.cell? ⟨r, 3, none⟩ = some (.bool P.dep) := cell_of_heap HP6.out rfl
  have v20 : w6.cell? ⟨r + 1, 20, none⟩ = some (.bool s.dt) := cell_of_heap HS6.out rfl
  have f20 : w6.frozen? ⟨r + 1, 20, none⟩ = false := free_of_heap HS6.out
  have nr := heap_lt HS6.out
  have np := heap_lt HP6.out
  have hk := Lib.hid (heap_set (k := 20) (u := .bool (s.dt && P.dep)) HS6.out)
  have hc := Lib.hid ((Chg.refl [r + 1] w6).setCell (p := ⟨r + 1, 20, none⟩) (by simp) (.bool (s.dt && P.dep)))
  go_cut [] from 20 to 26 (fun wc => Hid (StAt wc (r + 1) { s with dt := s.dt && P.dep } ∧ Chg [r + 1] w6 wc))
  case first =>
    obtain ⟨pq, hpq⟩ : ∃ pq, P.dep = pq := ⟨_, rfl⟩
    obtain ⟨sq, hsq⟩ : ∃ sq, s.dt = sq := ⟨_, rfl⟩
    have HK2 := Lib.hid (show StAt (w6.setCell ⟨r + 1, 20, none⟩ (.bool (s.dt && P.dep))) (r + 1) { s with dt := s.dt && P.dep } from hk.out)
    rw [hpq] at p3
    rw [hsq] at v20
    rw [hpq, hsq] at hc
    have HQ := Lib.hid (And.intro hpq hsq)
    clear hpq hsq hk
    cases sq
    · go_wp2_with fail
      go_meet
      have h1 := HK2.out
      rw [show (Value.bool (s.dt && P.dep)) = .bool false by rw [HQ.out.2]; rfl] at h1
      exact Lib.hid ⟨h1, hc.out⟩
    · go_wp2_with fail
      go_meet
      have h1 := HK2.out
      rw [show (Value.bool (s.dt && P.dep)) = .bool pq by rw [HQ.out.2, HQ.out.1]; rfl] at h1
      exact Lib.hid ⟨h1, hc.out⟩
  case rest =>
    rename World => w7
    have HS7 := Lib.hid hcut.out.1
    have HX7 := Lib.hid (HX6.out.chgTrans hcut.out.2 (by rw [HR.out]; simp))
    have HP7 := Lib.hid (hcut.out.2.heap HP6.out (by simp))
    have HF7 := Lib.hid (HF6.out.chg hcut.out.2 (by simp))
    have HV7 := Lib.hid (HV6.out.chg hcut.out.2 (by simp; omega))
    have H7 := Lib.hid (hcut.out.2.heap H6.out (by simp; omega))
    clear hcut p3 v20 f20 nr np hk hc HX6 HP6 HF6 HV6 H6 HS6
    have p3 : w7.cell? ⟨r, 3, none⟩ = some (.bool P.dep) := cell_of_heap HP7.out rfl
    have v20 : w7.cell? ⟨r + 1, 21, none⟩ = some (.bool s.dw) := cell_of_heap HS7.out rfl
    have f20 : w7.frozen? ⟨r + 1, 21, none⟩ = false := free_of_heap HS7.out
    have nr := heap_lt HS7.out
    have np := heap_lt HP7.out
    have hk := Lib.hid (heap_set (k := 21) (u := .bool (s.dw && P.dep)) HS7.out)
    have hc := Lib.hid ((Chg.refl [r + 1] w7).setCell (p := ⟨r + 1, 21, none⟩) (by simp) (.bool (s.dw && P.dep)))
    go_upto_region 4 with fail
    go_cut [] from 27 to 33 (fun wc => Hid (StAt wc (r + 1) { s with dt := s.dt && P.dep, dw := s.dw && P.dep } ∧ Chg [r + 1] w7 wc))
    case first =>
      obtain ⟨pq, hpq⟩ : ∃ pq, P.dep = pq := ⟨_, rfl⟩
      obtain ⟨sq, hsq⟩ : ∃ sq, s.dw = sq := ⟨_, rfl⟩
      have HK2 := Lib.hid (show StAt (w7.setCell ⟨r + 1, 21, none⟩ (.bool (s.dw && P.dep))) (r + 1) { s with dt := s.dt && P.dep, dw := s.dw && P.dep } from hk.out)
      rw [hpq] at p3
      rw [hsq] at v20
      rw [hpq, hsq] at hc
      have HQ := Lib.hid (And.intro hpq hsq)
      clear hpq hsq hk
      cases sq
      · go_wp2_with fail
        go_meet
        have h1 := HK2.out
        rw [show (Value.bool (s.dw && P.dep)) = .bool false by rw [HQ.out.2]; rfl] at h1
        exact Lib.hid ⟨h1, hc.out⟩
      · go_wp2_with fail
        go_meet
        have h1 := HK2.out
        rw [show (Value.bool (s.dw && P.dep)) = .bool pq by rw [HQ.out.2, HQ.out.1]; rfl] at h1
        exact Lib.hid ⟨h1, hc.out⟩
    case rest =>
      rename World => w8
      have HS8 := Lib.hid hcut.out.1
      have HX8 := Lib.hid (HX7.out.chgTrans hcut.out.2 (by rw [HR.out]; simp))
      have HP8 := Lib.hid (hcut.out.2.heap HP7.out (by simp))
      have HF8 := Lib.hid (HF7.out.chg hcut.out.2 (by simp))
      have HV8 := Lib.hid (HV7.out.chg hcut.out.2 (by simp; omega))
      have H8 := Lib.hid (hcut.out.2.heap H7.out (by simp; omega))
      clear hcut p3 v20 f20 nr np hk hc HX7 HP7 HF7 HV7 H7 HS7
      have p3 : w8.cell? ⟨r, 4, none⟩ = some (.bool P.sten) := cell_of_heap HP8.out rfl
      have v20 : w8.cell? ⟨r + 1, 5, none⟩ = some (.bool s.st) := cell_of_heap HS8.out rfl
      have f20 : w8.frozen? ⟨r + 1, 5, none⟩ = false := free_of_heap HS8.out
      have nr := heap_lt HS8.out
      have np := heap_lt HP8.out
      have hk := Lib.hid (heap_set (k := 5) (u := .bool (s.st && P.sten)) HS8.out)
      have hc := Lib.hid ((Chg.refl [r + 1] w8).setCell (p := ⟨r + 1, 5, none⟩) (by simp) (.bool (s.st && P.sten)))
      go_upto_region 5 with fail
      go_cut [] from 34 to 40 (fun wc => Hid (StAt wc (r + 1) (sM s P) ∧ Chg [r + 1] w8 wc))
      case first =>
        obtain ⟨pq, hpq⟩ : ∃ pq, P.sten = pq := ⟨_, rfl⟩
        obtain ⟨sq, hsq⟩ : ∃ sq, s.st = sq := ⟨_, rfl⟩
        have HK2 := Lib.hid (show StAt (w8.setCell ⟨r + 1, 5, none⟩ (.bool (s.st && P.sten))) (r + 1) (sM s P) from hk.out)
        rw [hpq] at p3
        rw [hsq] at v20
        rw [hpq, hsq] at hc
        have HQ := Lib.hid (And.intro hpq hsq)
        clear hpq hsq hk
        cases sq
        · go_wp2_with fail
          go_meet
          have h1 := HK2.out
          rw [show (Value.bool (s.st && P.sten)) = .bool false by rw [HQ.out.2]; rfl] at h1
          exact Lib.hid ⟨h1, hc.out⟩
        · go_wp2_with fail
          go_meet
          have h1 := HK2.out
          rw [show (Value.bool (s.st && P.sten)) = .bool pq by rw [HQ.out.2, HQ.out.1]; rfl] at h1
          exact Lib.hid ⟨h1, hc.out⟩
      case rest =>
        rename World => w9
        have HS9 := Lib.hid hcut.out.1
        have HX9 := Lib.hid (HX8.out.chgTrans hcut.out.2 (by rw [HR.out]; simp))
        have HP9 := Lib.hid (hcut.out.2.heap HP8.out (by simp))
        have HF9 := Lib.hid (HF8.out.chg hcut.out.2 (by simp))
        have HV9 := Lib.hid (HV8.out.chg hcut.out.2 (by simp; omega))
        have H9 := Lib.hid (hcut.out.2.heap H8.out (by simp; omega))
        clear hcut p3 v20 f20 nr np hk hc HX8 HP8 HF8 HV8 H8 HS8
        have HKEEP : Hid (∀ w', Ext w9 w' → (@Classical.epsilon _ neV (LdP 42 (.pointer (some ⟨r + 1, 0, none⟩)))).run Try.prog w' = .ok (.agg (sM s P).C.toArray) w' ∧ (@Classical.epsilon _ neV (LdP 55 (.pointer (some ⟨r + 1 + 1, 0, none⟩)))).run Try.prog w' = .ok (.agg f.C.toArray) w' ∧ (@Classical.epsilon _ neV (LdP 26 (.pointer (some ⟨r + 1 + 1 + 1, 0, none⟩)))).run Try.prog w' = .ok (.agg color.C.toArray) w' ∧ (@Classical.epsilon _ neF (LdF 76 (.pointer (some ⟨r, 0, none⟩)))).run Try.prog w' = .ok (.agg (P.D v).toArray) w' ∧ w'.cell? ⟨r + 1 + 1, 0, none⟩ = some (.int .i64 X) ∧ w'.cell? ⟨r + 1 + 1, 1, none⟩ = some (.int .i64 Y)) := Lib.hid fun w' x' => ⟨StAt.load (HS9.out.ext x'), FAt.load (HF9.out.ext x'), VAt.load2 (HV9.out.ext x'), DpAt.load (x'.heap HP9.out), by rw [← HFX.out.1]; exact cell_of_heap (HF9.out.ext x') rfl, by rw [← HFX.out.2]; exact cell_of_heap (HF9.out.ext x') rfl⟩
        have n1 := heap_lt HF9.out
        have n2 := heap_lt HP9.out
        have X0 := Lib.hid (show Ext w9 w9.drew from (Ext.refl _).drew)
        go_upto_region 6 with fail
        go_region_held3 (fun w' => (@Classical.epsilon _ neV (LdP 42 (.pointer (some ⟨r + 1, 0, none⟩)))).run Try.prog w' = .ok (.agg (sM s P).C.toArray) w' ∧ (@Classical.epsilon _ neV (LdP 55 (.pointer (some ⟨r + 1 + 1, 0, none⟩)))).run Try.prog w' = .ok (.agg f.C.toArray) w' ∧ (@Classical.epsilon _ neV (LdP 26 (.pointer (some ⟨r + 1 + 1 + 1, 0, none⟩)))).run Try.prog w' = .ok (.agg color.C.toArray) w' ∧ (@Classical.epsilon _ neF (LdF 76 (.pointer (some ⟨r, 0, none⟩)))).run Try.prog w' = .ok (.agg (P.D v).toArray) w' ∧ w'.cell? ⟨r + 1 + 1, 0, none⟩ = some (.int .i64 X) ∧ w'.cell? ⟨r + 1 + 1, 1, none⟩ = some (.int .i64 Y)) (first | exact HKEEP.out _ X0.out | exact HKEEP.out _ (X0.out.alloc _) | exact HKEEP.out _ XA.out | exact HKEEP.out _ (XA.out.alloc _) | exact HKEEP.out _ XB.out | exact HKEEP.out _ (XB.out.alloc _) | exact HKEEP.out _ XC.out) (first
          | (go_at_call 74; refine (HCE.out _ (HH.out.ext (HX9.out.trans X0.out))).mono ?_; rintro _ wa ⟨rfl, hxa⟩; have XA := Lib.hid (X0.out.trans hxa))
          | (go_at_call 74; refine (HCE.out _ (HH.out.ext (HX9.out.trans (X0.out.alloc _)))).mono ?_; rintro _ wa ⟨rfl, hxa⟩; have XA := Lib.hid ((X0.out.alloc (.cells #[.int .i32 0, .int .i32 0, .int .i32 0, .int .i32 0, .int .i32 0, .int .i64 0] 45)).trans hxa))
          | (go_at_call 73; guard_hyp hxa : Ext (w9.drew.alloc (.cells #[.int .i32 0, .int .i32 0, .int .i32 0, .int .i32 0, .int .i32 0, .int .i64 0] 45)) wa; refine (HAP.out wa).mono ?_; rintro _ wb ⟨rfl, hxb⟩; have XB := Lib.hid (XA.out.trans hxb); obtain ⟨wc, hstc, hcc, hxc⟩ := putC ((show CAt (w9.drew.alloc (.cells #[.int .i32 0, .int .i32 0, .int .i32 0, .int .i32 0, .int .i32 0, .int .i64 0] 45)) w9.heap.size ceZ from heap_alloc_new _ _).ext (hxa.trans hxb)) XB.out (Nat.le_refl _) pc; have XC := Lib.hid hxc; have HCC := Lib.hid hcc; clear hcc hxc)
          | (go_at_call 73; refine (HAP.out (wa.alloc (.cells #[.int .i32 0, .int .i32 0, .int .i32 0, .int .i32 0, .int .i32 0, .int .i64 0] 45))).mono ?_; rintro _ wb ⟨rfl, hxb⟩; have XB := Lib.hid ((XA.out.alloc (.cells #[.int .i32 0, .int .i32 0, .int .i32 0, .int .i32 0, .int .i32 0, .int .i64 0] 45)).trans hxb); obtain ⟨wc, hstc, hcc, hxc⟩ := putC ((show CAt (wa.alloc (.cells #[.int .i32 0, .int .i32 0, .int .i32 0, .int .i32 0, .int .i32 0, .int .i64 0] 45)) wa.heap.size ceZ from heap_alloc_new _ _).ext hxb) XB.out XA.out.size pc; have XC := Lib.hid hxc; have HCC := Lib.hid hcc; clear hcc hxc)
          | (go_at_call 73; refine (HAP.out wa).mono ?_; rintro _ wb ⟨rfl, hxb⟩; have XB := Lib.hid (XA.out.trans hxb); obtain ⟨wc, hstc, hcc, hxc⟩ := newCz wb pc; have XC := Lib.hid (XB.out.trans hxc); have HCC := Lib.hid hcc; clear hcc hxc))
        all_goals
          have l10 := CAt.load2 HCC.out
          have n10 := heap_lt HCC.out
          have k10 := HKEEP.out _ XC.out
          obtain ⟨_, _, _, kp, kx, ky⟩ := k10
          have n1 := heap_lt (HF9.out.ext XC.out)
          have n2 := heap_lt (XC.out.heap HP9.out)
          have HWX := Lib.hid (HX9.out.trans XC.out)
          have HZC := Lib.hid (XC.out.heap H9.out)
          have nz := heap_lt HZC.out
          go_wp2_with (go_at_call 33; refine (HLA.out _ HWX.out (by rw [HR.out]; exact heap_lt HZC.out)).mono ?_; rintro _ wd ⟨v', L', rfl, hd, ho, hxd⟩; obtain ⟨we, hst, hq, hc⟩ := dp_put (hxd.heap HZC.out) PP ho; have HQ := Lib.hid hq; have HD := Lib.hid (hd we (by rw [HR.out]; exact hc)); have HXE := Lib.hid ((HWX.out.trans hxd).chgTrans hc (by rw [HR.out]; simp; omega)))
          have hload := run_loadVar_whole (P := Try.prog) 76 _ HQ.out Try.underlying76 rfl (by kernel_rfl)
          refine bodyPost_ret (results_cell2 rfl _ _ _ _ rfl hload) rfl ?_
          exact ⟨v', L', rfl, HD.out, HXE.out⟩
end
end Go.Proofs.Ytgdcdkajicgliaa
