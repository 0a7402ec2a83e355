/- Does the layer do anything: it does; the walk of FrameNone. Conditions: each theorem's own premises. Contract of small. Conditions: each theorem's own premises. -/
import Derived.Test.YtgdcdkajicgliaaFraW
import Derived.Test.YtgdcdkajicgliaaFraN
import Derived.Test.YtgdcdkajicgliaaFra8
import Derived.Test.YtgdcdkajicgliaaOpsEq
namespace Go.Proofs.Ytgdcdkajicgliaa
open Go.RowKit
set_option linter.unusedVariables false
set_option maxRecDepth 100000
set_option linter.unusedSimpArgs false

theorem wake_read : rdV (clrV st0 3 ⟨65536, 0, 0, 65536⟩ 65536 0 (plZ 2 2 1 true false)) 1 1 2 1 = [255, 0, 0, 255, 0, 0, 0, 0] := by decide +kernel
theorem st0_ok : stOk st0 = true := by decide +kernel
theorem newZ (w : World) : ∃ w', (@Classical.epsilon _ neU (StP 45 (.pointer (some ⟨w.heap.size, 0, none⟩)) (.agg #[.int .i32 0, .int .i32 0, .int .i32 0, .int .i32 0, .int .i32 0, .int .i64 0]))).run Try.prog (w.alloc (.cells #[.int .i32 0, .int .i32 0, .int .i32 0, .int .i32 0, .int .i32 0, .int .i64 0] 45)) = .ok () w' ∧ CAt w' w.heap.size ceZ ∧ Ext w w' := newC w ceZ
set_option maxHeartbeats 2000000 in
theorem wakes25_any (w : World) : Calls Try.prog 11 #[] w fun e w' => e = .returned (.bool true) ∧ Ext w w' := by
  have HN : Hid (∀ w, Calls Try.prog 13 #[.int .i64 2, .int .i64 2, .int .i64 1, .bool true, .bool false] w fun e w' => ∃ B : Pb, e = .returned (.tuple #[.pointer (some ⟨B.p, 0, none⟩), .int .i64 0]) ∧ w.heap.size ≤ B.p ∧ w.heap.size ≤ B.c ∧ w.heap.size ≤ B.d ∧ w.heap.size ≤ B.m ∧ PlAt w' B (plZ 2 2 1 true false) ∧ Ext w w') := Lib.hid fun w => newp_any 2 2 1 true false w rfl
  have HC : Hid (∀ (B : Pb) (P : Pl) (w : World), PlAt w B P → Calls Try.prog 14 #[.pointer (some ⟨B.p, 0, none⟩), .agg st0.C.toArray, .int .i64 3, .agg #[.int .i32 65536, .int .i32 0, .int .i32 0, .int .i32 65536], .int .i32 65536, .int .i64 0] w fun e w' => e = .returned (.int .i64 0) ∧ PlAt w' B (clrV st0 3 ⟨65536, 0, 0, 65536⟩ 65536 0 P) ∧ Chg [B.c, B.d, B.m] w w') := Lib.hid fun B P w h => clear_any B P st0 3 65536 0 ⟨65536, 0, 0, 65536⟩ st0_ok (by decide) w h
  have HR : Hid (∀ (B : Pb) (P : Pl) (w : World), PlAt w B P → Calls Try.prog 17 #[.pointer (some ⟨B.p, 0, none⟩), .int .i64 1, .int .i64 1, .int .i64 2, .int .i64 1] w fun e w' => ∃ g, e = .returned (.tuple #[.slice (some ⟨g, 0, none⟩) 8 8, .int .i64 0]) ∧ w.heap.size ≤ g ∧ w'.heap[g]? = some (.cells ((rdV P 1 1 2 1).map (Value.int .u8)).toArray 5 (0, 0)) ∧ Ext w w') := Lib.hid fun B P w h => read_any B P 1 1 2 1 (by omega) (by omega) (by decide) (by decide) w h
  have HW := Lib.hid wake_read
  go_enter Try.func11, Try.ntmps11
  go_upto_region 2 with (go_at_call 13; refine (HN.out _).mono ?_; rintro _ w1 ⟨B, rfl, b1, b2, b3, b4, hp1, hx1⟩)
  have HP1 := Lib.hid hp1
  have HX1 := Lib.hid hx1
  have HB : Hid (w.heap.size ≤ B.c ∧ w.heap.size ≤ B.d ∧ w.heap.size ≤ B.m) := Lib.hid ⟨b2, b3, b4⟩
  clear hp1 hx1 b1 b2 b3 b4
  go_upto_region 4 with (first | (go_at_call 15; refine (opsnew_any _).mono ?_; rintro _ w2 ⟨rfl, hx2⟩) | (go_at_call 14; refine (HC.out B _ _ (HP1.out.ext hx2)).mono ?_; rintro _ w3 ⟨rfl, hp3, hx3⟩))
  have HP3 := Lib.hid hp3
  have HX3 : Hid (Ext w w3) := Lib.hid ((HX1.out.trans hx2).chgTrans hx3 (by have := HB.out; simp; omega))
  clear hp3 hx3 hx2
  go_upto_region 5 with (go_at_call 17; refine (HR.out B _ _ HP3.out).mono ?_; rintro _ w4 ⟨g, rfl, hg, hh, hx4⟩)
  rw [HW.out] at hh
  have d0 : w4.cell? ⟨g, 0, none⟩ = some (.int .u8 255) := cell_of_heap hh rfl
  have d1 : w4.cell? ⟨g, 1, none⟩ = some (.int .u8 0) := cell_of_heap hh rfl
  have d3 : w4.cell? ⟨g, 3, none⟩ = some (.int .u8 255) := cell_of_heap hh rfl
  have d4 : w4.cell? ⟨g, 4, none⟩ = some (.int .u8 0) := cell_of_heap hh rfl
  have n4 := heap_lt hh
  have HX4 := Lib.hid (HX3.out.trans hx4)
  clear hh hx4 hg
  go_wp2_with fail
  go_ret
  exact ⟨rfl, HX4.out⟩
section
attribute [local go_sem ↓] Ld_V4 St_V4 Ld_Ce St_Ce Ld_St Ld_Fr
attribute [local go_sem ↓] eqCz
set_option maxHeartbeats 4000000 in
theorem fnone_walk (o : Opn) (w : World) : Calls Try.prog 5 #[.agg o.C.toArray] w fun e w' => e = .returned (.bool true) ∧ Ext w w' := by
  have hz := zero_cell
  go_enter Try.func5, Try.ntmps5
  go_upto_region 1 with fail
  obtain ⟨w0, hw0, ho, hx0⟩ : ∃ w0, w.alloc (.cells o.C.toArray 57) = w0 ∧ OpAt w0 w.heap.size o ∧ Ext w w0 := ⟨_, rfl, heap_alloc_new _ _, (Ext.refl _).alloc _⟩
  rw [hw0]
  obtain ⟨b, hb⟩ : ∃ b, w.heap.size = b := ⟨_, rfl⟩
  rw [hb] at ho
  rw [hb]
  have HO0 := Lib.hid ho
  have HX0 := Lib.hid hx0
  clear hw0 ho hx0 hb
  go_upto_region 6 with (first | (go_at_call 11; refine (wakes25_any _).mono ?_; rintro _ w1 ⟨rfl, hx1⟩) | (go_at_call 22; refine (sides_nil _).mono ?_; rintro _ _ ⟨rfl, rfl⟩) | (go_at_call 23; refine (has_nil _).mono ?_; rintro _ _ ⟨rfl, rfl⟩))
  have HO1 := Lib.hid (HO0.out.ext hx1)
  have HX1 := Lib.hid (HX0.out.trans hx1)
  have c1 : w1.cell? ⟨b, 1, none⟩ = some (.int .i64 o.x) := cell_of_heap HO1.out rfl
  have c2 : w1.cell? ⟨b, 2, none⟩ = some (.int .i64 o.y) := cell_of_heap HO1.out rfl
  have n1 := heap_lt HO1.out
  clear hx1 HO0 HX0
  go_upto_region 7 with (go_at_call 16; refine (cellp_nil _ _ _).mono ?_; rintro _ w2 ⟨rfl, hx2⟩; obtain ⟨w3, hst3, h3, hx3⟩ := newC w2 ceZ)
  have HC3 := Lib.hid h3
  have HO3 := Lib.hid (HO1.out.ext (hx2.trans hx3))
  have HX3 := Lib.hid (HX1.out.trans (hx2.trans hx3))
  obtain ⟨bc, hbc⟩ : ∃ bc, w2.heap.size = bc := ⟨_, rfl⟩
  rw [hbc] at HC3
  rw [hbc]
  have ls := HO3.out.loadS
  have lf := HO3.out.loadF
  have lv := HO3.out.loadV
  have n3 := heap_lt HO3.out
  clear h3 hx2 hx3 hst3 hbc c1 c2 n1 HO1 HX1
  go_upto_region 8 with (go_at_call 24; refine (paintp_nil _ _ _ _).mono ?_; rintro _ w4 ⟨rfl, hx4⟩)
  have HC4 := Lib.hid (HC3.out.ext hx4)
  have HO4 := Lib.hid (HO3.out.ext hx4)
  have HX4 := Lib.hid (HX3.out.trans hx4)
  have c1 : w4.cell? ⟨b, 1, none⟩ = some (.int .i64 o.x) := cell_of_heap HO4.out rfl
  have c2 : w4.cell? ⟨b, 2, none⟩ = some (.int .i64 o.y) := cell_of_heap HO4.out rfl
  have c3 : w4.cell? ⟨b, 3, none⟩ = some (.int .i64 o.w) := cell_of_heap HO4.out rfl
  have c4 : w4.cell? ⟨b, 4, none⟩ = some (.int .i64 o.h) := cell_of_heap HO4.out rfl
  have n4 := heap_lt HO4.out
  clear hx4 ls lf lv n3 HC3 HO3 HX3
  go_upto_region 9 with (go_at_call 17; refine (read_nil _ _ _ _ _).mono ?_; rintro _ w5 ⟨rfl, hx5⟩)
  have HX5 := Lib.hid (HX4.out.trans hx5)
  have HO5 := Lib.hid (HO4.out.ext hx5)
  have l5 := CAt.load2 (HC4.out.ext hx5)
  have d1 : w5.cell? ⟨b, 1, none⟩ = some (.int .i64 o.x) := cell_of_heap HO5.out rfl
  have d2 : w5.cell? ⟨b, 2, none⟩ = some (.int .i64 o.y) := cell_of_heap HO5.out rfl
  have d3 := HO5.out.loadC
  have n5 := heap_lt HO5.out
  have n6 := heap_lt (HC4.out.ext hx5)
  have he : decide (ceZ = ceZ) = true := by simp
  clear hx5 c1 c2 c3 c4 n4 HX4 HC4 HO4
  go_wp2_with (first
    | (go_at_call 25; refine (format_nil _).mono ?_; rintro _ _ ⟨rfl, rfl⟩)
    | (go_at_call 20; refine (bytes_nil _).mono ?_; rintro _ _ ⟨rfl, rfl⟩)
    | (go_at_call 18; refine (copy_nil _).mono ?_; rintro _ _ ⟨rfl, rfl⟩)
    | (go_at_call 19; refine (layp_nil _ _ _ _).mono ?_; rintro _ w7 ⟨rfl, hx7⟩; have HO7 := HO5.out.ext hx7; have e1 := HO7.loadS; have e2 := HO7.loadV; have e3 : w7.cell? ⟨b, 63, none⟩ = some (.int .i32 o.dep) := cell_of_heap HO7 rfl; have e4 : w7.cell? ⟨b, 64, none⟩ = some (.int .i64 o.what) := cell_of_heap HO7 rfl; have e5 : w7.cell? ⟨b, 65, none⟩ = some (.int .i64 o.sten) := cell_of_heap HO7 rfl; have n7 := heap_lt HO7)
    | (go_at_call 14; refine (clear_nil _ _ _ _ _ _).mono ?_; rintro _ w8 ⟨rfl, hx8⟩))
  go_ret
  exact ⟨rfl, HX5.out.trans (hx7.trans hx8)⟩
end
theorem fnone_arg (W : World) (v0 : Value) (h0 : ArgIs Try.prog W 57 v0) : Calls Try.prog 5 #[v0] W fun e w' => e = .returned (.bool true) ∧ Ext W w' := by
  obtain ⟨o, rfl, _⟩ := opIn h0
  exact fnone_walk o W
end Go.Proofs.Ytgdcdkajicgliaa
namespace Go.Proofs.Ytgdcdkajicgliaa
open Go.RowKit
set_option linter.unusedVariables false
set_option maxRecDepth 100000
set_option linter.unusedSimpArgs false

theorem Ld_Md (v : Value) : Instr.loadAt 23 v = @Classical.epsilon _ neV (LdP 23 v) := Ld_fold _ _
theorem St_Md (v u : Value) : Instr.storeAt 23 v u = @Classical.epsilon _ neU (StP 23 v u) := St_fold _ _ _
def MdAt (w : World) (b : Nat) (m : Md) : Prop := w.heap[b]? = some (.cells m.C.toArray 23 (0, 0))
theorem MdAt.ext {w w' : World} {b : Nat} {m : Md} (h : MdAt w b m) (x : Ext w w') : MdAt w' b m := x.heap h
theorem MdAt.chg {M : List Nat} {w w' : World} {b : Nat} {m : Md} (h : MdAt w b m) (x : Chg M w w') (hm : b ∉ M) : MdAt w' b m := x.heap h hm
theorem MdAt.load {w : World} {b : Nat} {m : Md} (h : MdAt w b m) : (@Classical.epsilon _ neV (LdP 23 (.pointer (some ⟨b, 0, none⟩)))).run Try.prog w = .ok (.agg m.C.toArray) w :=
  ld_ok _ (range_cells h (fun j v hv => by simpa using hv)) Try.underlying23 rfl (by kernel_rfl)
theorem MdAt.store {w : World} {b : Nat} {m : Md} (h : MdAt w b m) (u : Md) : (@Classical.epsilon _ neU (StP 23 (.pointer (some ⟨b, 0, none⟩)) (.agg u.C.toArray))).run Try.prog w = .ok () (w.setCells b 0 u.C) ∧ MdAt (w.setCells b 0 u.C) b u ∧ Chg [b] w (w.setCells b 0 u.C) := by
  obtain ⟨h1, h2, h3⟩ := stF_mid 23 h 0 u.C (by simp [Md.C]) (by kernel_rfl) (by simp [Md.C, Value.oneCell'])
  exact ⟨h1, heap_setCells_whole h u.C.toArray rfl, h3⟩
/-- A side, or a format, of few. -/
def smN (x : Int) (k : Nat) : Nat := 1 + (max x 0).toNat % k
theorem smN_bd (x : Int) (k : Nat) (h : 0 < k) : 1 ≤ smN x k ∧ smN x k ≤ k := by
  unfold smN
  have := Nat.mod_lt (max x 0).toNat h
  omega
theorem sm6 (x : Int) : 1 + (if x < 0 then 0 else x) % 6 = (smN x 6 : Nat) := by
  unfold smN
  omega
theorem sm4 (x : Int) : 1 + (if x < 0 then 0 else x) % 4 = (smN x 4 : Nat) := by
  unfold smN
  omega
def smM (m : Md) : Md := if m.any then m else ⟨smN m.w 6, smN m.h 6, smN m.f 4, m.dep, m.sten, m.any⟩
section
attribute [local go_sem ↓] Ld_Md St_Md
set_option maxHeartbeats 1000000 in
theorem small_any (m : Md) (hw : R64 m.w) (hh : R64 m.h) (hf : R64 m.f) (w : World) : Calls Try.prog 12 #[.agg m.C.toArray] w fun e w' => e = .returned (.agg (smM m).C.toArray) ∧ Ext w w' := by
  have hz : ∀ w : World, (zeroValue 23).run Try.prog w = .ok (.agg (⟨0, 0, 0, false, false, false⟩ : Md).C.toArray) w := fun w => by kernel_rfl
  obtain ⟨sm, hsm⟩ : ∃ sm, smM m = sm := ⟨_, rfl⟩
  rw [hsm]
  have HSM := Lib.hid hsm
  clear hsm
  cases ha : m.any
  · go_enter Try.func12, Try.ntmps12
    go_upto_region 1 with fail
    obtain ⟨w0, hw0, h0, h1, hx0⟩ := heap2x w (.cells m.C.toArray 23) (.cells (⟨0, 0, 0, false, false, false⟩ : Md).C.toArray 23)
    rw [hw0]
    obtain ⟨r, hr⟩ : ∃ r, w.heap.size = r := ⟨_, rfl⟩
    have HR := Lib.hid hr
    rw [hr] at h0 h1
    rw [hr]
    have HX0 := Lib.hid hx0
    have H0 : Hid (MdAt w0 r m) := Lib.hid h0
    have H1 : Hid (MdAt w0 (r + 1) ⟨0, 0, 0, false, false, false⟩) := Lib.hid h1
    have c0 : w0.cell? ⟨r, 0, none⟩ = some (.int .i64 m.w) := cell_of_heap h0 rfl
    have c1 : w0.cell? ⟨r, 1, none⟩ = some (.int .i64 m.h) := cell_of_heap h0 rfl
    have c2 : w0.cell? ⟨r, 2, none⟩ = some (.int .i64 m.f) := cell_of_heap h0 rfl
    have c5 : w0.cell? ⟨r, 5, none⟩ = some (.bool m.any) := cell_of_heap h0 rfl
    have f0 : w0.frozen? ⟨r, 0, none⟩ = false := free_of_heap h0
    have f1 : w0.frozen? ⟨r, 1, none⟩ = false := free_of_heap h0
    have f2 : w0.frozen? ⟨r, 2, none⟩ = false := free_of_heap h0
    have n0 := heap_lt h0
    rw [ha] at c5
    clear h0 h1 hx0 hw0 hr
    go_upto_region 3 with fail
    rw [sm6, sm6, sm4]
    have hs1 := heap_set (k := 2) (u := .int .i64 (smN m.f 4 : Nat)) (heap_set (k := 1) (u := .int .i64 (smN m.h 6 : Nat)) (heap_set (k := 0) (u := .int .i64 (smN m.w 6 : Nat)) H0.out))
    obtain ⟨w1, hw1⟩ : ∃ w1, ((w0.setCell ⟨r, 0, none⟩ (.int .i64 (smN m.w 6 : Nat))).setCell ⟨r, 1, none⟩ (.int .i64 (smN m.h 6 : Nat))).setCell ⟨r, 2, none⟩ (.int .i64 (smN m.f 4 : Nat)) = w1 := ⟨_, rfl⟩
    have hch : Chg [r] w0 w1 := by rw [← hw1]; exact (((Chg.refl _ _).setCell (p := ⟨r, 0, none⟩) (by simp) _).setCell (p := ⟨r, 1, none⟩) (by simp) _).setCell (p := ⟨r, 2, none⟩) (by simp) _
    rw [hw1] at hs1
    rw [hw1]
    have h1 : MdAt w1 r sm := by
      have : sm = ⟨smN m.w 6, smN m.h 6, smN m.f 4, m.dep, m.sten, m.any⟩ := by rw [← HSM.out]; unfold smM; rw [ha]; rfl
      rw [this]
      exact hs1
    have l1 := h1.load
    have n1 := heap_lt h1
    have h2 := H1.out.chg hch (by simp)
    obtain ⟨t1, t2, t3⟩ := h2.store sm
    have n2 := heap_lt h2
    have HT2 := Lib.hid t2
    have HXE : Hid (Ext w (w1.setCells (r + 1) 0 sm.C)) := Lib.hid ((HX0.out.chgTrans (hch.mono (N := [r, r + 1]) (by simp)) (by rw [HR.out]; simp)).chgTrans t3 (by rw [HR.out]; simp))
    clear c0 c1 c2 c5 f0 f1 f2 n0 t2 t3 h1 h2 hs1 hch hw1 hz
    generalize smN m.w 6 = s1 at *
    generalize smN m.h 6 = s2 at *
    generalize smN m.f 4 = s3 at *
    generalize (if m.w < 0 then 0 else m.w) % 6 = z1 at *
    generalize (if m.w < 0 then 0 else m.w) = z2 at *
    generalize (if m.h < 0 then 0 else m.h) % 6 = z3 at *
    generalize (if m.h < 0 then 0 else m.h) = z4 at *
    generalize (if m.f < 0 then 0 else m.f) % 4 = z5 at *
    generalize (if m.f < 0 then 0 else m.f) = z6 at *
    go_wp2_with fail
    have hload := run_loadVar_whole (P := Try.prog) 23 _ HT2.out Try.underlying23 rfl rfl
    refine bodyPost_ret (results_cell1 rfl _ _ _ _ rfl hload) rfl ?_
    exact ⟨rfl, HXE.out⟩
  · go_enter Try.func12, Try.ntmps12
    go_upto_region 1 with fail
    obtain ⟨w0, hw0, h0, h1, hx0⟩ := heap2x w (.cells m.C.toArray 23) (.cells (⟨0, 0, 0, false, false, false⟩ : Md).C.toArray 23)
    rw [hw0]
    obtain ⟨r, hr⟩ : ∃ r, w.heap.size = r := ⟨_, rfl⟩
    have HR := Lib.hid hr
    rw [hr] at h0 h1
    rw [hr]
    have h0 : MdAt w0 r m := h0
    have h1 : MdAt w0 (r + 1) ⟨0, 0, 0, false, false, false⟩ := h1
    have c5 : w0.cell? ⟨r, 5, none⟩ = some (.bool m.any) := cell_of_heap h0 rfl
    rw [ha] at c5
    have l1 := h0.load
    have n1 := heap_lt h0
    obtain ⟨t1, t2, t3⟩ := h1.store m
    have n2 := heap_lt h1
    have HT2 := Lib.hid t2
    have HXE : Hid (Ext w (w0.setCells (r + 1) 0 m.C)) := Lib.hid (hx0.chgTrans t3 (by rw [HR.out]; simp))
    have HE : Hid (sm = m) := Lib.hid (by rw [← HSM.out]; unfold smM; rw [ha]; rfl)
    clear t2 t3 h0 h1 hx0 hw0 hr
    go_wp2_with fail
    have hload := run_loadVar_whole (P := Try.prog) 23 _ HT2.out Try.underlying23 rfl rfl
    refine bodyPost_ret (results_cell1 rfl _ _ _ _ rfl hload) rfl ?_
    exact ⟨by rw [HE.out], HXE.out⟩
end
end Go.Proofs.Ytgdcdkajicgliaa
