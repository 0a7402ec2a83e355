/- Contract of planes' Paint. Conditions: each theorem's own premises. -/
import Derived.Test.YtgdcdkajicgliaaFraN
import Derived.Test.YtgdcdkajicgliaaFraS
import Derived.Test.YtgdcdkajicgliaaOps19
import Derived.Deep.DeepCutAuto
namespace Go.Proofs.Ytgdcdkajicgliaa
open Go.RowKit
set_option linter.unusedVariables false
set_option maxRecDepth 100000
set_option linter.unusedSimpArgs false

/-- The state, but for tests whose planes are not there. -/
def sM (s : St) (P : Pl) : St := { s with st := s.st && P.sten, dt := s.dt && P.dep, dw := s.dw && P.dep }
theorem sM_ok (s : St) (P : Pl) : stOk (sM s P) = stOk s := rfl
theorem ceOk_of {c : Ce} (h : c.Ok) : ceOk c = true := by
  have ha := h.v c.v.a (by simp [V4.L])
  have hb := h.v c.v.b (by simp [V4.L])
  have hc := h.v c.v.c (by simp [V4.L])
  have hd := h.v c.v.d (by simp [V4.L])
  have hz := h.d
  have hs := h.s
  have o : ∀ z, 0 ≤ z ∧ z ≤ 65536 → outV z = false := fun z hz => by
    unfold outV
    rw [decide_eq_false (by omega), decide_eq_false (by omega)]
    rfl
  refine (ceOk_iff c).2 ⟨?_, o _ hz, o _ ha, o _ hb, o _ hc, o _ hd⟩
  unfold inV
  rw [decide_eq_true hs.1, decide_eq_true hs.2]
  rfl
theorem ok_of_ceOk {c : Ce} (h : ceOk c = true) : c.Ok := by
  have o : ∀ z, outV z = false → 0 ≤ z ∧ z ≤ 65536 := fun z hz => by
    unfold outV at hz
    by_cases h1 : z < 0
    · rw [decide_eq_true h1] at hz; cases hz
    · by_cases h2 : 65536 < z
      · rw [decide_eq_false h1, decide_eq_true h2] at hz; cases hz
      · omega
  obtain ⟨h1, h2, h3, h4, h5, h6⟩ := (ceOk_iff c).1 h
  refine ⟨?_, o _ h2, ?_⟩
  · intro x hx
    simp only [V4.L, List.mem_cons, List.not_mem_nil, or_false] at hx
    rcases hx with rfl | rfl | rfl | rfl
    · exact o _ h3
    · exact o _ h4
    · exact o _ h5
    · exact o _ h6
  · unfold inV at h1
    simpa using h1
theorem FAt.load {w : World} {b : Nat} {f : Fr} (h : FAt w b f) : (@Classical.epsilon _ neV (LdP 55 (.pointer (some ⟨b, 0, none⟩)))).run Try.prog w = .ok (.agg f.C.toArray) w :=
  ld_ok _ (range_cells h (fun j v hv => by simpa using hv)) Try.underlying55 rfl (by kernel_rfl)
theorem Ld_Fr2 (v : Value) : Instr.loadAt 55 v = @Classical.epsilon _ neV (LdP 55 v) := Ld_fold _ _
section
attribute [local go_sem ↓] Ld_V4 St_V4 Ld_Ce St_Ce Ld_St Ld_Sd Ld_Fr2
theorem paintp_bad (q : Nat) (s : St) (f : Fr) (color : V4) (hs : stOk s = false) (w : World) : Calls Try.prog 24 #[.pointer (some ⟨q, 0, none⟩), .agg s.C.toArray, .agg f.C.toArray, .agg color.C.toArray] w fun e w' => e = .returned (.tuple #[.bool false, .int .i64 340]) ∧ Ext w w' := by
  have HCK := Lib.hid (check_any s)
  rw [hs] at HCK
  clear hs
  go_enter Try.func24, Try.ntmps24
  go_upto_region 1 with fail
  obtain ⟨w3, e3, h1, h2, h3, hx3⟩ := heap3x w (.cells s.C.toArray 42) (.cells f.C.toArray 55) (.cells color.C.toArray 26)
  rw [e3]
  have ls := StAt.load (show StAt w3 w.heap.size s from h1)
  have n3 := heap_lt h1
  have HX3 := Lib.hid hx3
  clear h1 h2 h3 hx3 e3
  go_wp2_with (go_at_call 58; refine (HCK.out _).mono ?_; rintro _ w4 ⟨rfl, hx4⟩)
  go_ret2
  exact ⟨rfl, HX3.out.trans hx4⟩
set_option maxHeartbeats 2000000 in
theorem paintp_out (B : Pb) (P : Pl) (s : St) (f : Fr) (color : V4) (hs : stOk s = true) (hi : inP P.W P.H f.x f.y = false) (w : World) (hp : PlAt w B P) : Calls Try.prog 24 #[.pointer (some ⟨B.p, 0, none⟩), .agg s.C.toArray, .agg f.C.toArray, .agg color.C.toArray] w fun e w' => e = .returned (.tuple #[.bool false, .int .i64 0]) ∧ Ext w w' := by
  have HCK := Lib.hid (check_any s)
  rw [hs] at HCK
  have HA := Lib.hid (at_out P.W P.H f.x f.y hi)
  have HP := Lib.hid hp
  clear hs hi hp
  go_enter Try.func24, Try.ntmps24
  go_upto_region 1 with fail
  obtain ⟨w3, e3, h1, h2, h3, hx3⟩ := heap3x w (.cells s.C.toArray 42) (.cells f.C.toArray 55) (.cells color.C.toArray 26)
  rw [e3]
  obtain ⟨r, hr⟩ : ∃ r, w.heap.size = r := ⟨_, rfl⟩
  rw [hr] at h1 h2
  rw [hr]
  have ls := StAt.load (show StAt w3 r s from h1)
  have n3 := heap_lt h1
  have HX3 := Lib.hid hx3
  have HF := Lib.hid (show FAt w3 (r + 1) f from h2)
  clear h1 h2 h3 hx3 e3 hr
  go_upto_region 6 with (go_at_call 58; refine (HCK.out _).mono ?_; rintro _ w4 ⟨rfl, hx4⟩)
  have HX4 := Lib.hid (HX3.out.trans hx4)
  have HF4 := Lib.hid (HF.out.ext hx4)
  have HP4 := Lib.hid (HP.out.ext HX4.out)
  have l1 := HP4.out.loadSd
  have l1d := (HP4.out.ext (Ext.refl _).drew).loadSd
  have c0 : w4.cell? ⟨r + 1, 0, none⟩ = some (.int .i64 f.x) := cell_of_heap HF4.out rfl
  have c1 : w4.cell? ⟨r + 1, 1, none⟩ = some (.int .i64 f.y) := cell_of_heap HF4.out rfl
  have n4 := heap_lt HF4.out
  have np := heap_lt HP4.out.p
  clear hx4 ls n3 HF HX3
  go_region_held3 (fun w' => w'.cell? ⟨r + 1, 0, none⟩ = some (.int .i64 f.x) ∧ w'.cell? ⟨r + 1, 1, none⟩ = some (.int .i64 f.y) ∧ (@Classical.epsilon _ neV (LdP 117 (.pointer (some ⟨B.p, 0, none⟩)))).run Try.prog w' = .ok (.agg #[.int .i64 P.W, .int .i64 P.H]) w') (go_keep) ((go_at_call 61; refine (HA.out _).mono ?_; rintro _ w5 ⟨i, rfl, hx5⟩; have g1 := hx5.cell c0; have g2 := hx5.cell c1; have g3 := (HP4.out.ext ((Ext.refl _).drew.trans hx5)).loadSd))
  go_wp2_with fail
  go_ret2
  exact ⟨rfl, HX4.out.trans ((Ext.refl _).drew.trans hx5)⟩
theorem putC {w7 w9 : World} {bl : Nat} (h : CAt w9 bl ceZ) (hx : Ext w7 w9) (hb : w7.heap.size ≤ bl) (u : Ce) : ∃ w', (@Classical.epsilon _ neU (StP 45 (.pointer (some ⟨bl, 0, none⟩)) (.agg u.C.toArray))).run Try.prog w9 = .ok () w' ∧ CAt w' bl u ∧ Ext w7 w' :=
  ⟨_, CAt.store2 h u, CAt.stored h u, hx.chgTrans (chg_setCells (M := [bl]) (by simp) _ _ _ (Chg.refl _ _)) (by simp; omega)⟩
/-- What painting does to a cell that there is. -/
def ptV (s : St) (f : Fr) (color : V4) (P : Pl) : Ce × Bool := applyV (sM s P) f color (cellV P (f.y.toNat * P.W + f.x.toNat))
def ptP (s : St) (f : Fr) (color : V4) (P : Pl) : Pl := layV P (f.y.toNat * P.W + f.x.toNat) (ptV s f color P).1
set_option maxHeartbeats 8000000 in
theorem paintp_in (B : Pb) (P : Pl) (s : St) (f : Fr) (color : V4) (hs : stOk s = true) (hi : inP P.W P.H f.x f.y = true) (w : World) (hp : PlAt w B P) : Calls Try.prog 24 #[.pointer (some ⟨B.p, 0, none⟩), .agg s.C.toArray, .agg f.C.toArray, .agg color.C.toArray] w fun e w' => e = .returned (.tuple #[.bool (ptV s f color P).2, .int .i64 0]) ∧ PlAt w' B (ptP s f color P) ∧ Chg [B.c, B.d, B.m] w w' := by
  have HCK := Lib.hid (check_any s)
  rw [hs] at HCK
  obtain ⟨i1, i2, i3, i4⟩ := inP_true hi
  obtain ⟨X, hX⟩ : ∃ X : Nat, f.x = X := ⟨f.x.toNat, by omega⟩
  obtain ⟨Y, hY⟩ : ∃ Y : Nat, f.y = Y := ⟨f.y.toNat, by omega⟩
  have hXW : X < P.W := by omega
  have hYH : Y < P.H := by omega
  have HA := Lib.hid (at_in P.W P.H X Y hXW hYH hp.ok.w2 hp.ok.h2)
  have hI := place_lt hXW hYH
  have eX : f.x.toNat = X := by omega
  have eY : f.y.toNat = Y := by omega
  have HV : Hid (ptP s f color P = layV P (Y * P.W + X) (ptV s f color P).1) := Lib.hid (by unfold ptP; rw [eX, eY])
  have hV2 : ptV s f color P = applyV (sM s P) f color (cellV P (Y * P.W + X)) := by unfold ptV; rw [eX, eY]
  generalize Y * P.W + X = I at *
  have hco := ceOk_of (cellV_ok hp.ok hI)
  have hst := stays (s := sM s P) hs f color hco
  have HCE := Lib.hid (fun w' h => cell_any B P I hI w' h)
  have HAP : Hid (∀ w', Calls Try.prog 68 #[.agg (sM s P).C.toArray, .agg f.C.toArray, .agg color.C.toArray, .agg (cellV P I).C.toArray] w' fun e w'' => e = .returned (.tuple #[.agg (ptV s f color P).1.C.toArray, .bool (ptV s f color P).2, .int .i64 0]) ∧ Ext w' w'') := Lib.hid fun w' => by
    have := apply_any (sM s P) f color (cellV P I) w'
    rw [applyR_ok (s := sM s P) hs hco] at this
    rw [hV2]
    exact this
  rw [← hV2] at hst
  have HLA := Lib.hid (fun w' h => lay_any B P I (ptV s f color P).1 hI (ok_of_ceOk hst.ok).In w' h)
  rw [← HV.out] at HLA
  have HP := Lib.hid hp
  have HFX := Lib.hid (And.intro hX hY)
  have HBL : Hid (B.p < w.heap.size ∧ B.c < w.heap.size ∧ B.d < w.heap.size ∧ B.m < w.heap.size) := Lib.hid ⟨heap_lt hp.p, heap_lt hp.c, heap_lt hp.d, heap_lt hp.m⟩
  generalize ptP s f color P = PP at *
  generalize ptV s f color P = PV at *
  generalize cellV P I = ce at *
  obtain ⟨pc, pb⟩ := PV
  clear hs hi hp i1 i2 i3 i4 hX hY hXW hYH eX eY hV2 hst hco hI HV
  go_enter Try.func24, Try.ntmps24
  go_upto_region 1 with fail
  obtain ⟨w3, e3, h1, h2, h3, hx3⟩ := heap3x w (.cells s.C.toArray 42) (.cells f.C.toArray 55) (.cells color.C.toArray 26)
  rw [e3]
  obtain ⟨r, hr⟩ : ∃ r, w.heap.size = r := ⟨_, rfl⟩
  have HR := Lib.hid hr
  rw [hr] at h1 h2 h3
  rw [hr]
  have ls := StAt.load (show StAt w3 r s from h1)
  have n3 := heap_lt h1
  have HX3 := Lib.hid hx3
  have HS := Lib.hid (show StAt w3 r s from h1)
  have HF := Lib.hid (show FAt w3 (r + 1) f from h2)
  have HV := Lib.hid (show VAt w3 (r + 1 + 1) color from h3)
  clear h1 h2 h3 hx3 e3 hr
  go_upto_region 6 with (go_at_call 58; refine (HCK.out _).mono ?_; rintro _ w4 ⟨rfl, hx4⟩)
  have HX4 := Lib.hid (HX3.out.trans hx4)
  have HS4 := Lib.hid (HS.out.ext hx4)
  have HF4 := Lib.hid (HF.out.ext hx4)
  have HV4 := Lib.hid (HV.out.ext hx4)
  have HP4 := Lib.hid (HP.out.ext HX4.out)
  have l1 := HP4.out.loadSd
  have l1d := (HP4.out.ext (Ext.refl _).drew).loadSd
  have c0 : w4.cell? ⟨r + 1, 0, none⟩ = some (.int .i64 X) := by rw [← HFX.out.1]; exact cell_of_heap HF4.out rfl
  have c1 : w4.cell? ⟨r + 1, 1, none⟩ = some (.int .i64 Y) := by rw [← HFX.out.2]; exact cell_of_heap HF4.out rfl
  have n4 := heap_lt HF4.out
  have np := heap_lt HP4.out.p
  clear hx4 ls n3 HF HX3 HS HV
  go_region_held3 (fun w' => w'.cell? ⟨r + 1, 0, none⟩ = some (.int .i64 X) ∧ w'.cell? ⟨r + 1, 1, none⟩ = some (.int .i64 Y) ∧ (@Classical.epsilon _ neV (LdP 117 (.pointer (some ⟨B.p, 0, none⟩)))).run Try.prog w' = .ok (.agg #[.int .i64 P.W, .int .i64 P.H]) w') (go_keep) ((go_at_call 61; refine (HA.out _).mono ?_; rintro _ w5 ⟨rfl, hx5⟩; have g1 := hx5.cell c0; have g2 := hx5.cell c1; have g3 := (HP4.out.ext ((Ext.refl _).drew.trans hx5)).loadSd))
  have hx5' := (Ext.refl w4).drew.trans hx5
  have HX5 := Lib.hid (HX4.out.trans hx5')
  have HS5 := Lib.hid (HS4.out.ext hx5')
  have HF5 := Lib.hid (HF4.out.ext hx5')
  have HV5 := Lib.hid (HV4.out.ext hx5')
  have HP5 := Lib.hid (HP.out.ext HX5.out)
  clear hx5 hx5' g1 g2 g3 l1 l1d c0 c1 n4 np HX4 HS4 HF4 HV4 HP4
  have q6 : w5.cell? ⟨B.p, 6, none⟩ = some (.bool P.dep) := cell_of_heap HP5.out.p rfl
  have n5 := heap_lt HP5.out.p
  go_upto_if 42 with fail
  clear q6 n5
  go_cut [] from 37 to 44 (fun wc => Hid (StAt wc r { s with dt := s.dt && P.dep, dw := s.dw && P.dep } ∧ Chg [r] w5 wc))
  case first =>
    cases hd : P.dep
    · have v20 : w5.cell? ⟨r, 20, none⟩ = some (.bool s.dt) := cell_of_heap HS5.out rfl
      have v21 : w5.cell? ⟨r, 21, none⟩ = some (.bool s.dw) := cell_of_heap HS5.out rfl
      have f20 : w5.frozen? ⟨r, 20, none⟩ = false := free_of_heap HS5.out
      have f21 : w5.frozen? ⟨r, 21, none⟩ = false := free_of_heap HS5.out
      have nr := heap_lt HS5.out
      have h1 := Lib.hid (heap_set (k := 21) (u := .bool false) (heap_set (k := 20) (u := .bool false) HS5.out))
      go_wp2_with fail
      go_meet
      refine ⟨?_, ((Chg.refl _ _).setCell (p := ⟨r, 20, none⟩) (by simp) _).setCell (p := ⟨r, 21, none⟩) (by simp) _⟩
      have e : ({ s with dt := s.dt && P.dep, dw := s.dw && P.dep } : St) = { s with dt := false, dw := false } := by rw [hd]; simp
      rw [e]
      exact h1.out
    · go_wp2_with fail
      go_meet
      refine ⟨?_, Chg.refl _ _⟩
      have e : ({ s with dt := s.dt && P.dep, dw := s.dw && P.dep } : St) = s := by rw [hd]; simp
      rw [e]
      exact HS5.out
  case rest =>
    obtain ⟨hs6, hc6⟩ := hcut.out
    have HS6 := Lib.hid hs6
    have HC6 := Lib.hid hc6
    have HP6 := Lib.hid (HP5.out.chg hc6 (by have := HBL.out; have := HR.out; simp; omega) (by have := HBL.out; have := HR.out; simp; omega) (by have := HBL.out; have := HR.out; simp; omega) (by have := HBL.out; have := HR.out; simp; omega))
    rename World => w6
    clear hs6 hc6 hcut
    have q7 : w6.cell? ⟨B.p, 7, none⟩ = some (.bool P.sten) := cell_of_heap HP6.out.p rfl
    have n6 := heap_lt HP6.out.p
    go_upto_if 50 with fail
    clear q7 n6
    go_cut [] from 45 to 51 (fun wc => Hid (StAt wc r (sM s P) ∧ Chg [r] w5 wc))
    case first =>
      cases hd : P.sten
      · have v5 : w6.cell? ⟨r, 5, none⟩ = some (.bool s.st) := cell_of_heap HS6.out rfl
        have f5 : w6.frozen? ⟨r, 5, none⟩ = false := free_of_heap HS6.out
        have nr := heap_lt HS6.out
        have h1 := Lib.hid (heap_set (k := 5) (u := .bool false) HS6.out)
        go_wp2_with fail
        go_meet
        refine ⟨?_, HC6.out.setCell (p := ⟨r, 5, none⟩) (by simp) _⟩
        have e : sM s P = { s with st := false, dt := s.dt && P.dep, dw := s.dw && P.dep } := by unfold sM; rw [hd, Bool.and_false]
        rw [e]
        exact h1.out
      · go_wp2_with fail
        go_meet
        refine ⟨?_, HC6.out⟩
        have e : sM s P = { s with dt := s.dt && P.dep, dw := s.dw && P.dep } := by unfold sM; rw [hd, Bool.and_true]
        rw [e]
        exact HS6.out
    case rest =>
      obtain ⟨hs7, hc7⟩ := hcut.out
      rename World => w7
      have HS7 := Lib.hid hs7
      have HX7 : Hid (Ext w w7) := Lib.hid (HX5.out.chgTrans hc7 (by rw [HR.out]; simp))
      have HP7 := Lib.hid (HP.out.ext HX7.out)
      have HF7 := Lib.hid (HF5.out.chg hc7 (by simp))
      have HV7 := Lib.hid (HV5.out.chg hc7 (by simp; omega))
      have ls := StAt.load hs7
      have lf := FAt.load HF7.out
      have lv := VAt.load2 HV7.out
      have lsd := StAt.load (HS7.out.ext (Ext.refl _).drew)
      have lfd := FAt.load (HF7.out.ext (Ext.refl _).drew)
      have lvd := VAt.load2 (HV7.out.ext (Ext.refl _).drew)
      have n7 := heap_lt HF7.out
      have nv7 := heap_lt HV7.out
      have ns7 := heap_lt HS7.out
      clear hs7 hc7 hcut HS6 HC6 HP6 HS5 HF5 HV5 HP5 HX5
      go_upto_region 13 with fail
      have HKEEP : Hid (∀ w', Ext w7 w' → (@Classical.epsilon _ neV (LdP 42 (.pointer (some ⟨r, 0, none⟩)))).run Try.prog w' = .ok (.agg (sM s P).C.toArray) w' ∧ (@Classical.epsilon _ neV (LdP 55 (.pointer (some ⟨r + 1, 0, none⟩)))).run Try.prog w' = .ok (.agg f.C.toArray) w' ∧ (@Classical.epsilon _ neV (LdP 26 (.pointer (some ⟨r + 1 + 1, 0, none⟩)))).run Try.prog w' = .ok (.agg color.C.toArray) w') := Lib.hid fun w' x' => ⟨StAt.load (HS7.out.ext x'), FAt.load (HF7.out.ext x'), VAt.load2 (HV7.out.ext x')⟩
      have X0 := Lib.hid (show Ext w7 w7.drew from (Ext.refl _).drew)
      go_region_held3 (fun w' => (@Classical.epsilon _ neV (LdP 42 (.pointer (some ⟨r, 0, none⟩)))).run Try.prog w' = .ok (.agg (sM s P).C.toArray) w' ∧ (@Classical.epsilon _ neV (LdP 55 (.pointer (some ⟨r + 1, 0, none⟩)))).run Try.prog w' = .ok (.agg f.C.toArray) w' ∧ (@Classical.epsilon _ neV (LdP 26 (.pointer (some ⟨r + 1 + 1, 0, none⟩)))).run Try.prog w' = .ok (.agg color.C.toArray) w') (first | exact HKEEP.out _ X0.out | exact HKEEP.out _ (X0.out.alloc _) | exact HKEEP.out _ X8.out | exact HKEEP.out _ (X8.out.alloc _) | exact HKEEP.out _ X9.out | exact HKEEP.out _ (X9.out.alloc _) | exact HKEEP.out _ X10.out) (first
        | (go_at_call 62; refine (HCE.out _ (HP7.out.ext X0.out)).mono ?_; rintro _ w8 ⟨rfl, hx8⟩; have X8 := Lib.hid (X0.out.trans hx8))
        | (go_at_call 62; refine (HCE.out _ (HP7.out.ext (X0.out.alloc _))).mono ?_; rintro _ w8 ⟨rfl, hx8⟩; have X8 := Lib.hid ((X0.out.alloc (.cells #[.int .i32 0, .int .i32 0, .int .i32 0, .int .i32 0, .int .i32 0, .int .i64 0] 45)).trans hx8))
        | (go_at_call 68; guard_hyp hx8 : Ext (w7.drew.alloc (.cells #[.int .i32 0, .int .i32 0, .int .i32 0, .int .i32 0, .int .i32 0, .int .i64 0] 45)) w8; refine (HAP.out w8).mono ?_; rintro _ w9 ⟨rfl, hx9⟩; have X9 := Lib.hid (X8.out.trans hx9); obtain ⟨w10, hst10, h10, hx10⟩ := putC ((show CAt (w7.drew.alloc (.cells #[.int .i32 0, .int .i32 0, .int .i32 0, .int .i32 0, .int .i32 0, .int .i64 0] 45)) w7.heap.size ceZ from heap_alloc_new _ _).ext (hx8.trans hx9)) X9.out (Nat.le_refl _) pc; have X10 := Lib.hid hx10; have H10 := Lib.hid h10; clear h10 hx10)
        | (go_at_call 68; refine (HAP.out (w8.alloc (.cells #[.int .i32 0, .int .i32 0, .int .i32 0, .int .i32 0, .int .i32 0, .int .i64 0] 45))).mono ?_; rintro _ w9 ⟨rfl, hx9⟩; have X9 := Lib.hid ((X8.out.alloc (.cells #[.int .i32 0, .int .i32 0, .int .i32 0, .int .i32 0, .int .i32 0, .int .i64 0] 45)).trans hx9); obtain ⟨w10, hst10, h10, hx10⟩ := putC ((show CAt (w8.alloc (.cells #[.int .i32 0, .int .i32 0, .int .i32 0, .int .i32 0, .int .i32 0, .int .i64 0] 45)) w8.heap.size ceZ from heap_alloc_new _ _).ext hx9) X9.out X8.out.size pc; have X10 := Lib.hid hx10; have H10 := Lib.hid h10; clear h10 hx10)
        | (go_at_call 68; refine (HAP.out w8).mono ?_; rintro _ w9 ⟨rfl, hx9⟩; have X9 := Lib.hid (X8.out.trans hx9); obtain ⟨w10, hst10, h10, hx10⟩ := newC w9 pc; have X10 := Lib.hid (X9.out.trans hx10); have H10 := Lib.hid h10; clear h10 hx10))
      all_goals
        have l10 := CAt.load2 H10.out
        have n10 := heap_lt H10.out
        go_wp2_with (go_at_call 63; refine (HLA.out _ (HP7.out.ext X10.out)).mono ?_; rintro _ w11 ⟨rfl, hp11, hc11⟩)
        go_ret2
        exact ⟨rfl, hp11, ((HX7.out.trans X10.out).chg _).trans hc11⟩
end
end Go.Proofs.Ytgdcdkajicgliaa
