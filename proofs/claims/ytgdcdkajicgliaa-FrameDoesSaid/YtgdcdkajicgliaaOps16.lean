/- Contract of the document's Mix. Conditions: each theorem's own premises. -/
import Derived.Test.YtgdcdkajicgliaaOps15
namespace Go.Proofs.Ytgdcdkajicgliaa
open Go.RowKit
set_option linter.unusedVariables false
set_option maxRecDepth 100000
set_option linter.unusedSimpArgs false
attribute [local go_sem] idxV0 idxV1 idxV2 idxV3

theorem heap_five (w : World) (A B C D E : Obj) : ∃ w5, ((((w.alloc A).alloc B).alloc C).alloc D).alloc E = w5 ∧ w5.heap[w.heap.size]? = some A ∧ w5.heap[w.heap.size + 1]? = some B ∧ w5.heap[w.heap.size + 1 + 1]? = some C ∧ w5.heap[w.heap.size + 1 + 1 + 1]? = some D ∧ w5.heap[w.heap.size + 1 + 1 + 1 + 1]? = some E ∧ Ext w w5 := by
  obtain ⟨w4, h4, a, b, c, d, x⟩ := heap_four w A B C D
  rw [h4]
  have e : Ext w4 (w4.alloc E) := (Ext.refl _).alloc _
  refine ⟨_, rfl, e.heap a, e.heap b, e.heap c, e.heap d, ?_, x.trans e⟩
  have hs : w4.heap.size = w.heap.size + 1 + 1 + 1 + 1 := by rw [← h4]; simp
  rw [← hs]
  exact heap_alloc_new _ _
def clzStep (v : V4) : Nat → V4
  | 0 => zero4
  | 1 => { zero4 with a := clV v.a }
  | 2 => { zero4 with a := clV v.a, b := clV v.b }
  | 3 => { zero4 with a := clV v.a, b := clV v.b, c := clV v.c }
  | _ => v.cl
def mzStep (s : St) (c old : V4) : Nat → V4
  | 0 => zero4
  | 1 => { zero4 with a := clV (mixCh s c old 0) }
  | 2 => { zero4 with a := clV (mixCh s c old 0), b := clV (mixCh s c old 1) }
  | 3 => { zero4 with a := clV (mixCh s c old 0), b := clV (mixCh s c old 1), c := clV (mixCh s c old 2) }
  | _ => V4.cl ⟨mixCh s c old 0, mixCh s c old 1, mixCh s c old 2, mixCh s c old 3⟩
section
attribute [local go_sem ↓] St_V4 Ld_Bl Go.wp_at_zero Go.wp_at_succ
set_option maxHeartbeats 8000000 in
set_option maxRecDepth 30000 in
theorem rmix_any (s : St) (hok : stOk s = true) (color old : V4) (w : World) : Calls Try.prog 110 #[.agg s.C.toArray, .agg color.C.toArray, .agg old.C.toArray] w fun e w' =>
    e = .returned (.agg (mixV s color old).C.toArray) ∧ Ext w w' := by
  obtain ⟨w5, hw5, hs, hc, ho, hr, hz, hx⟩ := heap_five w (.cells s.C.toArray 42) (.cells color.C.toArray 26) (.cells old.C.toArray 26) (.cells #[.int .i32 0, .int .i32 0, .int .i32 0, .int .i32 0] 26) (.cells #[.int .i32 0, .int .i32 0, .int .i32 0, .int .i32 0] 26)
  have HW := Lib.hid hw5
  clear hw5
  go_enter Try.func110, Try.ntmps110
  go_upto_region 2 with fail
  rw [HW.out]
  have HB : Hid (w.heap.size ≤ w.heap.size) := Lib.hid (Nat.le_refl _)
  generalize hb0 : w.heap.size = b0 at hs hc ho hr hz ⊢
  have HB0 := Lib.hid hb0
  clear hb0 HB HW
  have HC : Hid (VAt w5 (b0 + 1) color) := Lib.hid hc
  have HO : Hid (VAt w5 (b0 + 1 + 1) old) := Lib.hid ho
  have HR : Hid (VAt w5 (b0 + 1 + 1 + 1) zero4) := Lib.hid hr
  have HZ0 : VAt w5 (b0 + 1 + 1 + 1 + 1) zero4 := hz
  have HS : Hid (StAt w5 b0 s) := Lib.hid hs
  have HX := Lib.hid hx
  have HOK := Lib.hid hok
  obtain ⟨l40, l41, l42, l43⟩ := VAt.cell hc
  have lc := heap_lt hc
  have lz0 := heap_lt hz
  clear hs hc ho hr hz hx hok
  go_wp2_with fail
  clear l40 l41 l42 l43
  go_loopw [17] (fun i wq => ∃ m : Nat, (m = 0 ∨ m = 1 ∨ m = 2 ∨ m = 3 ∨ m = 4) ∧ i = .int .i64 m ∧ VAt wq (b0 + 1 + 1 + 1 + 1) (clzStep color m) ∧ Chg [b0 + 1 + 1 + 1 + 1] w5 wq) (fun i _ => (4 - intOf i).toNat)
  case atStart => exact ⟨0, by decide, rfl, HZ0, Chg.refl _ _⟩
  case round =>
    clear HZ0
    obtain ⟨m, hm, rfl, hv, hch⟩ := hrel
    rcases hm with rfl | rfl | rfl | rfl | rfl
    · have HV := Lib.hid (VAt.set0 hv (clV (color.a)))
      have HCH := Lib.hid (hch.setCell (p := ⟨b0 + 1 + 1 + 1 + 1, 0, none⟩) (by simp) (.int .i32 (clV color.a)))
      have c0 := hv.at 0 (by decide)
      have lv := heap_lt hv
      have fz : wr.frozen? ⟨b0 + 1 + 1 + 1 + 1, 0, none⟩ = false := free_of_heap hv
      clear hv hch
      go_wp2_with (go_at_call 109; refine (rclamp_any _ _ _ _).mono ?_; rintro _ _ ⟨rfl, rfl⟩)
      go_roundw
      case rel => exact ⟨1, by decide, rfl, HV.out, HCH.out⟩
      case measure => simp [intOf]
    · have HV := Lib.hid (VAt.set1 hv (clV (color.b)))
      have HCH := Lib.hid (hch.setCell (p := ⟨b0 + 1 + 1 + 1 + 1, 1, none⟩) (by simp) (.int .i32 (clV color.b)))
      have c0 := hv.at 1 (by decide)
      have lv := heap_lt hv
      have fz : wr.frozen? ⟨b0 + 1 + 1 + 1 + 1, 1, none⟩ = false := free_of_heap hv
      clear hv hch
      go_wp2_with (go_at_call 109; refine (rclamp_any _ _ _ _).mono ?_; rintro _ _ ⟨rfl, rfl⟩)
      go_roundw
      case rel => exact ⟨2, by decide, rfl, HV.out, HCH.out⟩
      case measure => simp [intOf]
    · have HV := Lib.hid (VAt.set2 hv (clV (color.c)))
      have HCH := Lib.hid (hch.setCell (p := ⟨b0 + 1 + 1 + 1 + 1, 2, none⟩) (by simp) (.int .i32 (clV color.c)))
      have c0 := hv.at 2 (by decide)
      have lv := heap_lt hv
      have fz : wr.frozen? ⟨b0 + 1 + 1 + 1 + 1, 2, none⟩ = false := free_of_heap hv
      clear hv hch
      go_wp2_with (go_at_call 109; refine (rclamp_any _ _ _ _).mono ?_; rintro _ _ ⟨rfl, rfl⟩)
      go_roundw
      case rel => exact ⟨3, by decide, rfl, HV.out, HCH.out⟩
      case measure => simp [intOf]
    · have HV := Lib.hid (VAt.set3 hv (clV (color.d)))
      have HCH := Lib.hid (hch.setCell (p := ⟨b0 + 1 + 1 + 1 + 1, 3, none⟩) (by simp) (.int .i32 (clV color.d)))
      have c0 := hv.at 3 (by decide)
      have lv := heap_lt hv
      have fz : wr.frozen? ⟨b0 + 1 + 1 + 1 + 1, 3, none⟩ = false := free_of_heap hv
      clear hv hch
      go_wp2_with (go_at_call 109; refine (rclamp_any _ _ _ _).mono ?_; rintro _ _ ⟨rfl, rfl⟩)
      go_roundw
      case rel => exact ⟨4, by decide, rfl, HV.out, HCH.out⟩
      case measure => simp [intOf]
    · have hS : VAt wr (b0 + 1 + 1 + 1 + 1) color.cl := hv
      have hsr : StAt wr b0 s := hch.heap HS.out (by simp; omega)
      have hor := HO.out.chg hch (by simp)
      have hrr := HR.out.chg hch (by simp)
      have HXR := Lib.hid (HX.out.chgTrans hch (by rw [HB0.out]; simp; omega))
      have cbl : wr.cell? ⟨b0, 23, none⟩ = some (.bool s.bl) := cell_of_heap hsr rfl
      obtain ⟨lS0, lS1, lS2, lS3⟩ := hS.cell
      have lr := heap_lt hrr
      have ls := heap_lt hsr
      have lv := heap_lt hS
      have lo := heap_lt hor
      have hst := hrr.store color.cl
      have hsd := Lib.hid (hrr.stored color.cl)
      have HSR := Lib.hid hsr
      have HOR := Lib.hid hor
      have HRR := Lib.hid hrr
      have HSV := Lib.hid hS
      clear hsr hor hrr hS hv hch HC HO HR HS HX lc lz0
      cases hbl : s.bl
      · have HM := Lib.hid (show mixV s color old = color.cl by unfold mixV; rw [hbl]; rfl)
        go_wp2_with fail
        have hload := run_loadVar_whole (P := Try.prog) 26 _ hsd.out Try.underlying26 rfl rfl
        refine bodyPost_ret (results_cell1 rfl _ _ _ _ rfl hload) rfl ?_
        exact ⟨by rw [HM.out], HXR.out.chgTrans (chg_setCells (b := b0 + 1 + 1 + 1) (M := [b0 + 1 + 1 + 1]) (by simp) _ 0 wr (Chg.refl _ _)) (by rw [HB0.out]; simp; omega)⟩
      · clear hst hsd lS0 lS1 lS2 lS3
        have HM := Lib.hid (show mixV s color old = V4.cl ⟨mixCh s color.cl old 0, mixCh s color.cl old 1, mixCh s color.cl old 2, mixCh s color.cl old 3⟩ by unfold mixV; rw [hbl]; rfl)
        go_upto_region 10 with fail
        obtain ⟨w6, hw6, hz6, hx6⟩ : ∃ w6, wr.alloc (.cells #[.int .i32 0, .int .i32 0, .int .i32 0, .int .i32 0] 26) = w6 ∧ VAt w6 wr.heap.size zero4 ∧ Ext wr w6 := ⟨_, rfl, heap_alloc_new _ _, (Ext.refl _).alloc _⟩
        rw [hw6]
        have hsr := HSR.out.ext hx6
        have hor := HOR.out.ext hx6
        have hrr := HRR.out.ext hx6
        have hSv := HSV.out.ext hx6
        have n0 := heap_lt HSR.out
        have n1 := heap_lt HOR.out
        have n2 := heap_lt HRR.out
        have n3 := heap_lt HSV.out
        have HX6 := Lib.hid (HXR.out.trans hx6)
        have hbw := HXR.out.size
        rw [HB0.out] at hbw
        clear hw6 hx6 HSR HOR HRR HSV HXR cbl lr ls lv lo
        generalize wr.heap.size = b10 at *
        go_wp2_with fail
        go_loopw [30] (fun i wq => ∃ m : Nat, (m = 0 ∨ m = 1 ∨ m = 2 ∨ m = 3 ∨ m = 4) ∧ i = .int .i64 m ∧ VAt wq b10 (mzStep s color.cl old m) ∧ Chg [b10] w6 wq) (fun i _ => (4 - intOf i).toNat)
        case atStart => exact ⟨0, by decide, rfl, hz6, Chg.refl _ _⟩
        case round =>
          clear hz6
          obtain ⟨m, hm, rfl, hv, hch⟩ := hrel
          have hs7 : StAt wr b0 s := hch.heap hsr (by simp; omega)
          have ho7 := hor.chg hch (by simp; omega)
          have hr7 := hrr.chg hch (by simp; omega)
          have hS7 := hSv.chg hch (by simp; omega)
          have lvv := heap_lt hv
          have HV := Lib.hid hv
          have HCH := Lib.hid hch
          clear hv hch hsr hor hrr hSv
          rcases hm with rfl | rfl | rfl | rfl | rfl
          · have r1 : (@Classical.epsilon _ neV (LdP 39 (.pointer (some ⟨b0, 24, none⟩)))).run Try.prog wr = .ok (.agg #[.int .i64 s.rgb.eqn, .int .i64 s.rgb.src, .int .i64 s.rgb.dst]) wr := hs7.loadR
            have r2 : (@Classical.epsilon _ neV (LdP 39 (.pointer (some ⟨b0, 27, none⟩)))).run Try.prog (wr.alloc (.cells #[.int .i64 s.rgb.eqn, .int .i64 s.rgb.src, .int .i64 s.rgb.dst] 39)) = .ok (.agg #[.int .i64 s.al.eqn, .int .i64 s.al.src, .int .i64 s.al.dst]) (wr.alloc (.cells #[.int .i64 s.rgb.eqn, .int .i64 s.rgb.src, .int .i64 s.rgb.dst] 39)) := (hs7.ext ((Ext.refl _).alloc _)).loadA
            go_upto_region 16 with fail
            clear r1 r2
            obtain ⟨w10, hw10, hT, hx10⟩ : ∃ w10, wr.alloc (.cells #[.int .i64 s.rgb.eqn, .int .i64 s.rgb.src, .int .i64 s.rgb.dst] 39) = w10 ∧ w10.heap[wr.heap.size]? = some (.cells #[.int .i64 s.rgb.eqn, .int .i64 s.rgb.src, .int .i64 s.rgb.dst] 39 (0, 0)) ∧ Ext wr w10 := ⟨_, rfl, heap_alloc_new _ _, (Ext.refl _).alloc _⟩
            rw [hw10]
            clear hw10
            have hs8 := hs7.ext hx10
            have ho8 := ho7.ext hx10
            have hS8 := hS7.ext hx10
            have q0 := heap_lt hs8
            have q1 := heap_lt ho8
            have q2 := heap_lt hS8
            have q3 := heap_lt hT
            have HT := Lib.hid hT
            have HX10 := Lib.hid hx10
            generalize wr.heap.size = b12 at *
            have k0 : w10.cell? (⟨b0 + 1 + 1 + 1 + 1, 0, none⟩ : Addr) = some (.int .i32 color.cl.a) := cell_of_heap hS8 rfl
            have k1 : w10.cell? (⟨b0 + 1 + 1 + 1 + 1, 1, none⟩ : Addr) = some (.int .i32 color.cl.b) := cell_of_heap hS8 rfl
            have k2 : w10.cell? (⟨b0 + 1 + 1 + 1 + 1, 2, none⟩ : Addr) = some (.int .i32 color.cl.c) := cell_of_heap hS8 rfl
            have k3 : w10.cell? (⟨b0 + 1 + 1 + 1 + 1, 3, none⟩ : Addr) = some (.int .i32 color.cl.d) := cell_of_heap hS8 rfl
            have k4 : w10.cell? (⟨b0 + 1 + 1, 0, none⟩ : Addr) = some (.int .i32 old.a) := cell_of_heap ho8 rfl
            have k5 : w10.cell? (⟨b0 + 1 + 1, 1, none⟩ : Addr) = some (.int .i32 old.b) := cell_of_heap ho8 rfl
            have k6 : w10.cell? (⟨b0 + 1 + 1, 2, none⟩ : Addr) = some (.int .i32 old.c) := cell_of_heap ho8 rfl
            have k7 : w10.cell? (⟨b0 + 1 + 1, 3, none⟩ : Addr) = some (.int .i32 old.d) := cell_of_heap ho8 rfl
            have k8 : w10.cell? (⟨b0, 30, none⟩ : Addr) = some (.int .i32 s.k.a) := cell_of_heap hs8 rfl
            have k9 : w10.cell? (⟨b0, 31, none⟩ : Addr) = some (.int .i32 s.k.b) := cell_of_heap hs8 rfl
            have k10 : w10.cell? (⟨b0, 32, none⟩ : Addr) = some (.int .i32 s.k.c) := cell_of_heap hs8 rfl
            have k11 : w10.cell? (⟨b0, 33, none⟩ : Addr) = some (.int .i32 s.k.d) := cell_of_heap hs8 rfl
            have k12 : w10.cell? (⟨b12, 0, none⟩ : Addr) = some (.int .i64 s.rgb.eqn) := cell_of_heap hT rfl
            have k13 : w10.cell? (⟨b12, 1, none⟩ : Addr) = some (.int .i64 s.rgb.src) := cell_of_heap hT rfl
            have k14 : w10.cell? (⟨b12, 2, none⟩ : Addr) = some (.int .i64 s.rgb.dst) := cell_of_heap hT rfl
            clear hs7 ho7 hr7 hS7 hs8 ho8 hS8 hT hx10
            have hbl := blOk_of HOK.out 0
            have hbe : blendOf s 0 = s.rgb := rfl
            rw [hbe] at hbl
            have e0 := hbl.2.1.1
            have e1 := hbl.2.1.2
            have e2 := hbl.2.2.1
            have e3 : s.rgb.dst ≤ 15 := by have := hbl.2.2.2; omega
            have heq : s.rgb.eqn = 1 ∨ s.rgb.eqn = 2 ∨ s.rgb.eqn = 3 := by have := hbl.1; omega
            clear hbl hbe
            go_cut [13] (fun v wc => v = .int .i32 (mulV color.cl.a (factorV s.rgb.src 0 color.cl old s.k)) ∧ Ext w10 wc)
            case first =>
              go_region_held3 (fun w' => w'.cell? (⟨b0 + 1 + 1 + 1 + 1, 0, none⟩ : Addr) = some (.int .i32 color.cl.a) ∧ w'.cell? (⟨b0 + 1 + 1 + 1 + 1, 1, none⟩ : Addr) = some (.int .i32 color.cl.b) ∧ w'.cell? (⟨b0 + 1 + 1 + 1 + 1, 2, none⟩ : Addr) = some (.int .i32 color.cl.c) ∧ w'.cell? (⟨b0 + 1 + 1 + 1 + 1, 3, none⟩ : Addr) = some (.int .i32 color.cl.d) ∧ w'.cell? (⟨b0 + 1 + 1, 0, none⟩ : Addr) = some (.int .i32 old.a) ∧ w'.cell? (⟨b0 + 1 + 1, 1, none⟩ : Addr) = some (.int .i32 old.b) ∧ w'.cell? (⟨b0 + 1 + 1, 2, none⟩ : Addr) = some (.int .i32 old.c) ∧ w'.cell? (⟨b0 + 1 + 1, 3, none⟩ : Addr) = some (.int .i32 old.d) ∧ w'.cell? (⟨b0, 30, none⟩ : Addr) = some (.int .i32 s.k.a) ∧ w'.cell? (⟨b0, 31, none⟩ : Addr) = some (.int .i32 s.k.b) ∧ w'.cell? (⟨b0, 32, none⟩ : Addr) = some (.int .i32 s.k.c) ∧ w'.cell? (⟨b0, 33, none⟩ : Addr) = some (.int .i32 s.k.d) ∧ w'.cell? (⟨b12, 0, none⟩ : Addr) = some (.int .i64 s.rgb.eqn) ∧ w'.cell? (⟨b12, 1, none⟩ : Addr) = some (.int .i64 s.rgb.src) ∧ w'.cell? (⟨b12, 2, none⟩ : Addr) = some (.int .i64 s.rgb.dst)) (go_keep) (first | (go_at_call 127; refine (rfactor_any _ 0 (by decide) e0 e1 color.cl old s.k _).mono ?_; rintro e w9 ⟨rfl, hx9⟩; have kk0 := hx9.cell k0; have kk1 := hx9.cell k1; have kk2 := hx9.cell k2; have kk3 := hx9.cell k3; have kk4 := hx9.cell k4; have kk5 := hx9.cell k5; have kk6 := hx9.cell k6; have kk7 := hx9.cell k7; have kk8 := hx9.cell k8; have kk9 := hx9.cell k9; have kk10 := hx9.cell k10; have kk11 := hx9.cell k11; have kk12 := hx9.cell k12; have kk13 := hx9.cell k13; have kk14 := hx9.cell k14) | (go_at_call 126; refine (rmul_any _ _ _).mono ?_; rintro e w11 ⟨rfl, rfl⟩))
              all_goals (go_wp2_with fail; go_meet)
              all_goals exact ⟨rfl, (Ext.refl _).drew.trans hx9⟩
            case rest =>
              obtain ⟨rfl, hxc⟩ := hcut
              rename World => wA
              have p0 := Nat.lt_of_lt_of_le q0 hxc.size
              have p1 := Nat.lt_of_lt_of_le q1 hxc.size
              have p2 := Nat.lt_of_lt_of_le q2 hxc.size
              have p3 := Nat.lt_of_lt_of_le q3 hxc.size
              have j0 := hxc.cell k0
              have j1 := hxc.cell k1
              have j2 := hxc.cell k2
              have j3 := hxc.cell k3
              have j4 := hxc.cell k4
              have j5 := hxc.cell k5
              have j6 := hxc.cell k6
              have j7 := hxc.cell k7
              have j8 := hxc.cell k8
              have j9 := hxc.cell k9
              have j10 := hxc.cell k10
              have j11 := hxc.cell k11
              have j12 := hxc.cell k12
              have j13 := hxc.cell k13
              have j14 := hxc.cell k14
              clear k0 k1 k2 k3 k4 k5 k6 k7 k8 k9 k10 k11 k12 k13 k14 q0 q1 q2 q3
              have k0 := j0
              have k1 := j1
              have k2 := j2
              have k3 := j3
              have k4 := j4
              have k5 := j5
              have k6 := j6
              have k7 := j7
              have k8 := j8
              have k9 := j9
              have k10 := j10
              have k11 := j11
              have k12 := j12
              have k13 := j13
              have k14 := j14
              clear j0 j1 j2 j3 j4 j5 j6 j7 j8 j9 j10 j11 j12 j13 j14
              go_upto_region 17 with fail
              go_cut [14] (fun v wc => v = .int .i32 (mulV old.a (factorV s.rgb.dst 0 color.cl old s.k)) ∧ Ext wA wc)
              case first =>
                go_region_held3 (fun w' => w'.cell? (⟨b0 + 1 + 1 + 1 + 1, 0, none⟩ : Addr) = some (.int .i32 color.cl.a) ∧ w'.cell? (⟨b0 + 1 + 1 + 1 + 1, 1, none⟩ : Addr) = some (.int .i32 color.cl.b) ∧ w'.cell? (⟨b0 + 1 + 1 + 1 + 1, 2, none⟩ : Addr) = some (.int .i32 color.cl.c) ∧ w'.cell? (⟨b0 + 1 + 1 + 1 + 1, 3, none⟩ : Addr) = some (.int .i32 color.cl.d) ∧ w'.cell? (⟨b0 + 1 + 1, 0, none⟩ : Addr) = some (.int .i32 old.a) ∧ w'.cell? (⟨b0 + 1 + 1, 1, none⟩ : Addr) = some (.int .i32 old.b) ∧ w'.cell? (⟨b0 + 1 + 1, 2, none⟩ : Addr) = some (.int .i32 old.c) ∧ w'.cell? (⟨b0 + 1 + 1, 3, none⟩ : Addr) = some (.int .i32 old.d) ∧ w'.cell? (⟨b0, 30, none⟩ : Addr) = some (.int .i32 s.k.a) ∧ w'.cell? (⟨b0, 31, none⟩ : Addr) = some (.int .i32 s.k.b) ∧ w'.cell? (⟨b0, 32, none⟩ : Addr) = some (.int .i32 s.k.c) ∧ w'.cell? (⟨b0, 33, none⟩ : Addr) = some (.int .i32 s.k.d) ∧ w'.cell? (⟨b12, 0, none⟩ : Addr) = some (.int .i64 s.rgb.eqn) ∧ w'.cell? (⟨b12, 1, none⟩ : Addr) = some (.int .i64 s.rgb.src) ∧ w'.cell? (⟨b12, 2, none⟩ : Addr) = some (.int .i64 s.rgb.dst)) (go_keep) (first | (go_at_call 127; refine (rfactor_any _ 0 (by decide) e2 e3 color.cl old s.k _).mono ?_; rintro e w9 ⟨rfl, hx9⟩; have kk0 := hx9.cell k0; have kk1 := hx9.cell k1; have kk2 := hx9.cell k2; have kk3 := hx9.cell k3; have kk4 := hx9.cell k4; have kk5 := hx9.cell k5; have kk6 := hx9.cell k6; have kk7 := hx9.cell k7; have kk8 := hx9.cell k8; have kk9 := hx9.cell k9; have kk10 := hx9.cell k10; have kk11 := hx9.cell k11; have kk12 := hx9.cell k12; have kk13 := hx9.cell k13; have kk14 := hx9.cell k14) | (go_at_call 126; refine (rmul_any _ _ _).mono ?_; rintro e w11 ⟨rfl, rfl⟩))
                all_goals (go_wp2_with fail; go_meet)
                all_goals exact ⟨rfl, (Ext.refl _).drew.trans hx9⟩
              case rest =>
                obtain ⟨rfl, hxd⟩ := hcut
                rename World => wB
                have HXA := Lib.hid ((HX10.out.trans hxc).trans hxd)
                have k14 := hxd.cell k12
                have r3 := Nat.lt_of_lt_of_le p3 hxd.size
                have fz : wB.frozen? ⟨b10, 0, none⟩ = false := free_of_heap (HV.out.ext HXA.out)
                have g5 := (HV.out.ext HXA.out).at 0 (by decide)
                have q4 := heap_lt (HV.out.ext HXA.out)
                have hz : mixCh s color.cl old 0 = zV s.rgb.eqn (mulV color.cl.a (factorV s.rgb.src 0 color.cl old s.k)) (mulV old.a (factorV s.rgb.dst 0 color.cl old s.k)) := rfl
                have HZ := Lib.hid hz
                clear hz hxc hxd p0 p1 p2 p3 k0 k1 k2 k3 k4 k5 k6 k7 k8 k9 k10 k11 k12 k13
                rcases heq with hq | hq | hq
                · have HS1 : Hid (mzStep s color.cl old 1 = { mzStep s color.cl old 0 with a := clV (addV (mulV color.cl.a (factorV s.rgb.src 0 color.cl old s.k)) (mulV old.a (factorV s.rgb.dst 0 color.cl old s.k))) }) := Lib.hid (by
                    have hz2 : mixCh s color.cl old 0 = addV (mulV color.cl.a (factorV s.rgb.src 0 color.cl old s.k)) (mulV old.a (factorV s.rgb.dst 0 color.cl old s.k)) := by rw [HZ.out, hq]; rfl
                    rw [← hz2]; rfl)
                  generalize (mulV color.cl.a (factorV s.rgb.src 0 color.cl old s.k)) = X at *
                  generalize (mulV old.a (factorV s.rgb.dst 0 color.cl old s.k)) = Y at *
                  go_wp2_with (first
                    | (go_at_call 128; refine (radd_any _ _ _).mono ?_; rintro _ _ ⟨rfl, rfl⟩)
                    | (go_at_call 129; refine (rsub_any _ _ _).mono ?_; rintro _ _ ⟨rfl, rfl⟩)
                    | (go_at_call 109; refine (rclamp_any _ _ _ _).mono ?_; rintro _ _ ⟨rfl, rfl⟩))
                  go_roundw
                  case rel =>
                    (repeat apply Exists.intro)
                    exact ⟨⟨1, by decide, rfl, by rw [HS1.out]; exact VAt.set0 (HV.out.ext HXA.out) _, (HCH.out.ext2 HXA.out).setCell (by simp) _⟩, rfl⟩
                  case measure => simp [intOf]
                · have HS1 : Hid (mzStep s color.cl old 1 = { mzStep s color.cl old 0 with a := clV (subV (mulV color.cl.a (factorV s.rgb.src 0 color.cl old s.k)) (mulV old.a (factorV s.rgb.dst 0 color.cl old s.k))) }) := Lib.hid (by
                    have hz2 : mixCh s color.cl old 0 = subV (mulV color.cl.a (factorV s.rgb.src 0 color.cl old s.k)) (mulV old.a (factorV s.rgb.dst 0 color.cl old s.k)) := by rw [HZ.out, hq]; rfl
                    rw [← hz2]; rfl)
                  generalize (mulV color.cl.a (factorV s.rgb.src 0 color.cl old s.k)) = X at *
                  generalize (mulV old.a (factorV s.rgb.dst 0 color.cl old s.k)) = Y at *
                  go_wp2_with (first
                    | (go_at_call 128; refine (radd_any _ _ _).mono ?_; rintro _ _ ⟨rfl, rfl⟩)
                    | (go_at_call 129; refine (rsub_any _ _ _).mono ?_; rintro _ _ ⟨rfl, rfl⟩)
                    | (go_at_call 109; refine (rclamp_any _ _ _ _).mono ?_; rintro _ _ ⟨rfl, rfl⟩))
                  go_roundw
                  case rel =>
                    (repeat apply Exists.intro)
                    exact ⟨⟨1, by decide, rfl, by rw [HS1.out]; exact VAt.set0 (HV.out.ext HXA.out) _, (HCH.out.ext2 HXA.out).setCell (by simp) _⟩, rfl⟩
                  case measure => simp [intOf]
                · have HS1 : Hid (mzStep s color.cl old 1 = { mzStep s color.cl old 0 with a := clV (subV (mulV old.a (factorV s.rgb.dst 0 color.cl old s.k)) (mulV color.cl.a (factorV s.rgb.src 0 color.cl old s.k))) }) := Lib.hid (by
                    have hz2 : mixCh s color.cl old 0 = subV (mulV old.a (factorV s.rgb.dst 0 color.cl old s.k)) (mulV color.cl.a (factorV s.rgb.src 0 color.cl old s.k)) := by rw [HZ.out, hq]; rfl
                    rw [← hz2]; rfl)
                  generalize (mulV color.cl.a (factorV s.rgb.src 0 color.cl old s.k)) = X at *
                  generalize (mulV old.a (factorV s.rgb.dst 0 color.cl old s.k)) = Y at *
                  go_wp2_with (first
                    | (go_at_call 128; refine (radd_any _ _ _).mono ?_; rintro _ _ ⟨rfl, rfl⟩)
                    | (go_at_call 129; refine (rsub_any _ _ _).mono ?_; rintro _ _ ⟨rfl, rfl⟩)
                    | (go_at_call 109; refine (rclamp_any _ _ _ _).mono ?_; rintro _ _ ⟨rfl, rfl⟩))
                  go_roundw
                  case rel =>
                    (repeat apply Exists.intro)
                    exact ⟨⟨1, by decide, rfl, by rw [HS1.out]; exact VAt.set0 (HV.out.ext HXA.out) _, (HCH.out.ext2 HXA.out).setCell (by simp) _⟩, rfl⟩
                  case measure => simp [intOf]
          · have r1 : (@Classical.epsilon _ neV (LdP 39 (.pointer (some ⟨b0, 24, none⟩)))).run Try.prog wr = .ok (.agg #[.int .i64 s.rgb.eqn, .int .i64 s.rgb.src, .int .i64 s.rgb.dst]) wr := hs7.loadR
            have r2 : (@Classical.epsilon _ neV (LdP 39 (.pointer (some ⟨b0, 27, none⟩)))).run Try.prog (wr.alloc (.cells #[.int .i64 s.rgb.eqn, .int .i64 s.rgb.src, .int .i64 s.rgb.dst] 39)) = .ok (.agg #[.int .i64 s.al.eqn, .int .i64 s.al.src, .int .i64 s.al.dst]) (wr.alloc (.cells #[.int .i64 s.rgb.eqn, .int .i64 s.rgb.src, .int .i64 s.rgb.dst] 39)) := (hs7.ext ((Ext.refl _).alloc _)).loadA
            go_upto_region 16 with fail
            clear r1 r2
            obtain ⟨w10, hw10, hT, hx10⟩ : ∃ w10, wr.alloc (.cells #[.int .i64 s.rgb.eqn, .int .i64 s.rgb.src, .int .i64 s.rgb.dst] 39) = w10 ∧ w10.heap[wr.heap.size]? = some (.cells #[.int .i64 s.rgb.eqn, .int .i64 s.rgb.src, .int .i64 s.rgb.dst] 39 (0, 0)) ∧ Ext wr w10 := ⟨_, rfl, heap_alloc_new _ _, (Ext.refl _).alloc _⟩
            rw [hw10]
            clear hw10
            have hs8 := hs7.ext hx10
            have ho8 := ho7.ext hx10
            have hS8 := hS7.ext hx10
            have q0 := heap_lt hs8
            have q1 := heap_lt ho8
            have q2 := heap_lt hS8
            have q3 := heap_lt hT
            have HT := Lib.hid hT
            have HX10 := Lib.hid hx10
            generalize wr.heap.size = b12 at *
            have k0 : w10.cell? (⟨b0 + 1 + 1 + 1 + 1, 0, none⟩ : Addr) = some (.int .i32 color.cl.a) := cell_of_heap hS8 rfl
            have k1 : w10.cell? (⟨b0 + 1 + 1 + 1 + 1, 1, none⟩ : Addr) = some (.int .i32 color.cl.b) := cell_of_heap hS8 rfl
            have k2 : w10.cell? (⟨b0 + 1 + 1 + 1 + 1, 2, none⟩ : Addr) = some (.int .i32 color.cl.c) := cell_of_heap hS8 rfl
            have k3 : w10.cell? (⟨b0 + 1 + 1 + 1 + 1, 3, none⟩ : Addr) = some (.int .i32 color.cl.d) := cell_of_heap hS8 rfl
            have k4 : w10.cell? (⟨b0 + 1 + 1, 0, none⟩ : Addr) = some (.int .i32 old.a) := cell_of_heap ho8 rfl
            have k5 : w10.cell? (⟨b0 + 1 + 1, 1, none⟩ : Addr) = some (.int .i32 old.b) := cell_of_heap ho8 rfl
            have k6 : w10.cell? (⟨b0 + 1 + 1, 2, none⟩ : Addr) = some (.int .i32 old.c) := cell_of_heap ho8 rfl
            have k7 : w10.cell? (⟨b0 + 1 + 1, 3, none⟩ : Addr) = some (.int .i32 old.d) := cell_of_heap ho8 rfl
            have k8 : w10.cell? (⟨b0, 30, none⟩ : Addr) = some (.int .i32 s.k.a) := cell_of_heap hs8 rfl
            have k9 : w10.cell? (⟨b0, 31, none⟩ : Addr) = some (.int .i32 s.k.b) := cell_of_heap hs8 rfl
            have k10 : w10.cell? (⟨b0, 32, none⟩ : Addr) = some (.int .i32 s.k.c) := cell_of_heap hs8 rfl
            have k11 : w10.cell? (⟨b0, 33, none⟩ : Addr) = some (.int .i32 s.k.d) := cell_of_heap hs8 rfl
            have k12 : w10.cell? (⟨b12, 0, none⟩ : Addr) = some (.int .i64 s.rgb.eqn) := cell_of_heap hT rfl
            have k13 : w10.cell? (⟨b12, 1, none⟩ : Addr) = some (.int .i64 s.rgb.src) := cell_of_heap hT rfl
            have k14 : w10.cell? (⟨b12, 2, none⟩ : Addr) = some (.int .i64 s.rgb.dst) := cell_of_heap hT rfl
            clear hs7 ho7 hr7 hS7 hs8 ho8 hS8 hT hx10
            have hbl := blOk_of HOK.out 1
            have hbe : blendOf s 1 = s.rgb := rfl
            rw [hbe] at hbl
            have e0 := hbl.2.1.1
            have e1 := hbl.2.1.2
            have e2 := hbl.2.2.1
            have e3 : s.rgb.dst ≤ 15 := by have := hbl.2.2.2; omega
            have heq : s.rgb.eqn = 1 ∨ s.rgb.eqn = 2 ∨ s.rgb.eqn = 3 := by have := hbl.1; omega
            clear hbl hbe
            go_cut [13] (fun v wc => v = .int .i32 (mulV color.cl.b (factorV s.rgb.src 1 color.cl old s.k)) ∧ Ext w10 wc)
            case first =>
              go_region_held3 (fun w' => w'.cell? (⟨b0 + 1 + 1 + 1 + 1, 0, none⟩ : Addr) = some (.int .i32 color.cl.a) ∧ w'.cell? (⟨b0 + 1 + 1 + 1 + 1, 1, none⟩ : Addr) = some (.int .i32 color.cl.b) ∧ w'.cell? (⟨b0 + 1 + 1 + 1 + 1, 2, none⟩ : Addr) = some (.int .i32 color.cl.c) ∧ w'.cell? (⟨b0 + 1 + 1 + 1 + 1, 3, none⟩ : Addr) = some (.int .i32 color.cl.d) ∧ w'.cell? (⟨b0 + 1 + 1, 0, none⟩ : Addr) = some (.int .i32 old.a) ∧ w'.cell? (⟨b0 + 1 + 1, 1, none⟩ : Addr) = some (.int .i32 old.b) ∧ w'.cell? (⟨b0 + 1 + 1, 2, none⟩ : Addr) = some (.int .i32 old.c) ∧ w'.cell? (⟨b0 + 1 + 1, 3, none⟩ : Addr) = some (.int .i32 old.d) ∧ w'.cell? (⟨b0, 30, none⟩ : Addr) = some (.int .i32 s.k.a) ∧ w'.cell? (⟨b0, 31, none⟩ : Addr) = some (.int .i32 s.k.b) ∧ w'.cell? (⟨b0, 32, none⟩ : Addr) = some (.int .i32 s.k.c) ∧ w'.cell? (⟨b0, 33, none⟩ : Addr) = some (.int .i32 s.k.d) ∧ w'.cell? (⟨b12, 0, none⟩ : Addr) = some (.int .i64 s.rgb.eqn) ∧ w'.cell? (⟨b12, 1, none⟩ : Addr) = some (.int .i64 s.rgb.src) ∧ w'.cell? (⟨b12, 2, none⟩ : Addr) = some (.int .i64 s.rgb.dst)) (go_keep) (first | (go_at_call 127; refine (rfactor_any _ 1 (by decide) e0 e1 color.cl old s.k _).mono ?_; rintro e w9 ⟨rfl, hx9⟩; have kk0 := hx9.cell k0; have kk1 := hx9.cell k1; have kk2 := hx9.cell k2; have kk3 := hx9.cell k3; have kk4 := hx9.cell k4; have kk5 := hx9.cell k5; have kk6 := hx9.cell k6; have kk7 := hx9.cell k7; have kk8 := hx9.cell k8; have kk9 := hx9.cell k9; have kk10 := hx9.cell k10; have kk11 := hx9.cell k11; have kk12 := hx9.cell k12; have kk13 := hx9.cell k13; have kk14 := hx9.cell k14) | (go_at_call 126; refine (rmul_any _ _ _).mono ?_; rintro e w11 ⟨rfl, rfl⟩))
              all_goals (go_wp2_with fail; go_meet)
              all_goals exact ⟨rfl, (Ext.refl _).drew.trans hx9⟩
            case rest =>
              obtain ⟨rfl, hxc⟩ := hcut
              rename World => wA
              have p0 := Nat.lt_of_lt_of_le q0 hxc.size
              have p1 := Nat.lt_of_lt_of_le q1 hxc.size
              have p2 := Nat.lt_of_lt_of_le q2 hxc.size
              have p3 := Nat.lt_of_lt_of_le q3 hxc.size
              have j0 := hxc.cell k0
              have j1 := hxc.cell k1
              have j2 := hxc.cell k2
              have j3 := hxc.cell k3
              have j4 := hxc.cell k4
              have j5 := hxc.cell k5
              have j6 := hxc.cell k6
              have j7 := hxc.cell k7
              have j8 := hxc.cell k8
              have j9 := hxc.cell k9
              have j10 := hxc.cell k10
              have j11 := hxc.cell k11
              have j12 := hxc.cell k12
              have j13 := hxc.cell k13
              have j14 := hxc.cell k14
              clear k0 k1 k2 k3 k4 k5 k6 k7 k8 k9 k10 k11 k12 k13 k14 q0 q1 q2 q3
              have k0 := j0
              have k1 := j1
              have k2 := j2
              have k3 := j3
              have k4 := j4
              have k5 := j5
              have k6 := j6
              have k7 := j7
              have k8 := j8
              have k9 := j9
              have k10 := j10
              have k11 := j11
              have k12 := j12
              have k13 := j13
              have k14 := j14
              clear j0 j1 j2 j3 j4 j5 j6 j7 j8 j9 j10 j11 j12 j13 j14
              go_upto_region 17 with fail
              go_cut [14] (fun v wc => v = .int .i32 (mulV old.b (factorV s.rgb.dst 1 color.cl old s.k)) ∧ Ext wA wc)
              case first =>
                go_region_held3 (fun w' => w'.cell? (⟨b0 + 1 + 1 + 1 + 1, 0, none⟩ : Addr) = some (.int .i32 color.cl.a) ∧ w'.cell? (⟨b0 + 1 + 1 + 1 + 1, 1, none⟩ : Addr) = some (.int .i32 color.cl.b) ∧ w'.cell? (⟨b0 + 1 + 1 + 1 + 1, 2, none⟩ : Addr) = some (.int .i32 color.cl.c) ∧ w'.cell? (⟨b0 + 1 + 1 + 1 + 1, 3, none⟩ : Addr) = some (.int .i32 color.cl.d) ∧ w'.cell? (⟨b0 + 1 + 1, 0, none⟩ : Addr) = some (.int .i32 old.a) ∧ w'.cell? (⟨b0 + 1 + 1, 1, none⟩ : Addr) = some (.int .i32 old.b) ∧ w'.cell? (⟨b0 + 1 + 1, 2, none⟩ : Addr) = some (.int .i32 old.c) ∧ w'.cell? (⟨b0 + 1 + 1, 3, none⟩ : Addr) = some (.int .i32 old.d) ∧ w'.cell? (⟨b0, 30, none⟩ : Addr) = some (.int .i32 s.k.a) ∧ w'.cell? (⟨b0, 31, none⟩ : Addr) = some (.int .i32 s.k.b) ∧ w'.cell? (⟨b0, 32, none⟩ : Addr) = some (.int .i32 s.k.c) ∧ w'.cell? (⟨b0, 33, none⟩ : Addr) = some (.int .i32 s.k.d) ∧ w'.cell? (⟨b12, 0, none⟩ : Addr) = some (.int .i64 s.rgb.eqn) ∧ w'.cell? (⟨b12, 1, none⟩ : Addr) = some (.int .i64 s.rgb.src) ∧ w'.cell? (⟨b12, 2, none⟩ : Addr) = some (.int .i64 s.rgb.dst)) (go_keep) (first | (go_at_call 127; refine (rfactor_any _ 1 (by decide) e2 e3 color.cl old s.k _).mono ?_; rintro e w9 ⟨rfl, hx9⟩; have kk0 := hx9.cell k0; have kk1 := hx9.cell k1; have kk2 := hx9.cell k2; have kk3 := hx9.cell k3; have kk4 := hx9.cell k4; have kk5 := hx9.cell k5; have kk6 := hx9.cell k6; have kk7 := hx9.cell k7; have kk8 := hx9.cell k8; have kk9 := hx9.cell k9; have kk10 := hx9.cell k10; have kk11 := hx9.cell k11; have kk12 := hx9.cell k12; have kk13 := hx9.cell k13; have kk14 := hx9.cell k14) | (go_at_call 126; refine (rmul_any _ _ _).mono ?_; rintro e w11 ⟨rfl, rfl⟩))
                all_goals (go_wp2_with fail; go_meet)
                all_goals exact ⟨rfl, (Ext.refl _).drew.trans hx9⟩
              case rest =>
                obtain ⟨rfl, hxd⟩ := hcut
                rename World => wB
                have HXA := Lib.hid ((HX10.out.trans hxc).trans hxd)
                have k14 := hxd.cell k12
                have r3 := Nat.lt_of_lt_of_le p3 hxd.size
                have fz : wB.frozen? ⟨b10, 1, none⟩ = false := free_of_heap (HV.out.ext HXA.out)
                have g5 := (HV.out.ext HXA.out).at 1 (by decide)
                have q4 := heap_lt (HV.out.ext HXA.out)
                have hz : mixCh s color.cl old 1 = zV s.rgb.eqn (mulV color.cl.b (factorV s.rgb.src 1 color.cl old s.k)) (mulV old.b (factorV s.rgb.dst 1 color.cl old s.k)) := rfl
                have HZ := Lib.hid hz
                clear hz hxc hxd p0 p1 p2 p3 k0 k1 k2 k3 k4 k5 k6 k7 k8 k9 k10 k11 k12 k13
                rcases heq with hq | hq | hq
                · have HS1 : Hid (mzStep s color.cl old 2 = { mzStep s color.cl old 1 with b := clV (addV (mulV color.cl.b (factorV s.rgb.src 1 color.cl old s.k)) (mulV old.b (factorV s.rgb.dst 1 color.cl old s.k))) }) := Lib.hid (by
                    have hz2 : mixCh s color.cl old 1 = addV (mulV color.cl.b (factorV s.rgb.src 1 color.cl old s.k)) (mulV old.b (factorV s.rgb.dst 1 color.cl old s.k)) := by rw [HZ.out, hq]; rfl
                    rw [← hz2]; rfl)
                  generalize (mulV color.cl.b (factorV s.rgb.src 1 color.cl old s.k)) = X at *
                  generalize (mulV old.b (factorV s.rgb.dst 1 color.cl old s.k)) = Y at *
                  go_wp2_with (first
                    | (go_at_call 128; refine (radd_any _ _ _).mono ?_; rintro _ _ ⟨rfl, rfl⟩)
                    | (go_at_call 129; refine (rsub_any _ _ _).mono ?_; rintro _ _ ⟨rfl, rfl⟩)
                    | (go_at_call 109; refine (rclamp_any _ _ _ _).mono ?_; rintro _ _ ⟨rfl, rfl⟩))
                  go_roundw
                  case rel =>
                    (repeat apply Exists.intro)
                    exact ⟨⟨2, by decide, rfl, by rw [HS1.out]; exact VAt.set1 (HV.out.ext HXA.out) _, (HCH.out.ext2 HXA.out).setCell (by simp) _⟩, rfl⟩
                  case measure => simp [intOf]
                · have HS1 : Hid (mzStep s color.cl old 2 = { mzStep s color.cl old 1 with b := clV (subV (mulV color.cl.b (factorV s.rgb.src 1 color.cl old s.k)) (mulV old.b (factorV s.rgb.dst 1 color.cl old s.k))) }) := Lib.hid (by
                    have hz2 : mixCh s color.cl old 1 = subV (mulV color.cl.b (factorV s.rgb.src 1 color.cl old s.k)) (mulV old.b (factorV s.rgb.dst 1 color.cl old s.k)) := by rw [HZ.out, hq]; rfl
                    rw [← hz2]; rfl)
                  generalize (mulV color.cl.b (factorV s.rgb.src 1 color.cl old s.k)) = X at *
                  generalize (mulV old.b (factorV s.rgb.dst 1 color.cl old s.k)) = Y at *
                  go_wp2_with (first
                    | (go_at_call 128; refine (radd_any _ _ _).mono ?_; rintro _ _ ⟨rfl, rfl⟩)
                    | (go_at_call 129; refine (rsub_any _ _ _).mono ?_; rintro _ _ ⟨rfl, rfl⟩)
                    | (go_at_call 109; refine (rclamp_any _ _ _ _).mono ?_; rintro _ _ ⟨rfl, rfl⟩))
                  go_roundw
                  case rel =>
                    (repeat apply Exists.intro)
                    exact ⟨⟨2, by decide, rfl, by rw [HS1.out]; exact VAt.set1 (HV.out.ext HXA.out) _, (HCH.out.ext2 HXA.out).setCell (by simp) _⟩, rfl⟩
                  case measure => simp [intOf]
                · have HS1 : Hid (mzStep s color.cl old 2 = { mzStep s color.cl old 1 with b := clV (subV (mulV old.b (factorV s.rgb.dst 1 color.cl old s.k)) (mulV color.cl.b (factorV s.rgb.src 1 color.cl old s.k))) }) := Lib.hid (by
                    have hz2 : mixCh s color.cl old 1 = subV (mulV old.b (factorV s.rgb.dst 1 color.cl old s.k)) (mulV color.cl.b (factorV s.rgb.src 1 color.cl old s.k)) := by rw [HZ.out, hq]; rfl
                    rw [← hz2]; rfl)
                  generalize (mulV color.cl.b (factorV s.rgb.src 1 color.cl old s.k)) = X at *
                  generalize (mulV old.b (factorV s.rgb.dst 1 color.cl old s.k)) = Y at *
                  go_wp2_with (first
                    | (go_at_call 128; refine (radd_any _ _ _).mono ?_; rintro _ _ ⟨rfl, rfl⟩)
                    | (go_at_call 129; refine (rsub_any _ _ _).mono ?_; rintro _ _ ⟨rfl, rfl⟩)
                    | (go_at_call 109; refine (rclamp_any _ _ _ _).mono ?_; rintro _ _ ⟨rfl, rfl⟩))
                  go_roundw
                  case rel =>
                    (repeat apply Exists.intro)
                    exact ⟨⟨2, by decide, rfl, by rw [HS1.out]; exact VAt.set1 (HV.out.ext HXA.out) _, (HCH.out.ext2 HXA.out).setCell (by simp) _⟩, rfl⟩
                  case measure => simp [intOf]
          · have r1 : (@Classical.epsilon _ neV (LdP 39 (.pointer (some ⟨b0, 24, none⟩)))).run Try.prog wr = .ok (.agg #[.int .i64 s.rgb.eqn, .int .i64 s.rgb.src, .int .i64 s.rgb.dst]) wr := hs7.loadR
            have r2 : (@Classical.epsilon _ neV (LdP 39 (.pointer (some ⟨b0, 27, none⟩)))).run Try.prog (wr.alloc (.cells #[.int .i64 s.rgb.eqn, .int .i64 s.rgb.src, .int .i64 s.rgb.dst] 39)) = .ok (.agg #[.int .i64 s.al.eqn, .int .i64 s.al.src, .int .i64 s.al.dst]) (wr.alloc (.cells #[.int .i64 s.rgb.eqn, .int .i64 s.rgb.src, .int .i64 s.rgb.dst] 39)) := (hs7.ext ((Ext.refl _).alloc _)).loadA
            go_upto_region 16 with fail
            clear r1 r2
            obtain ⟨w10, hw10, hT, hx10⟩ : ∃ w10, wr.alloc (.cells #[.int .i64 s.rgb.eqn, .int .i64 s.rgb.src, .int .i64 s.rgb.dst] 39) = w10 ∧ w10.heap[wr.heap.size]? = some (.cells #[.int .i64 s.rgb.eqn, .int .i64 s.rgb.src, .int .i64 s.rgb.dst] 39 (0, 0)) ∧ Ext wr w10 := ⟨_, rfl, heap_alloc_new _ _, (Ext.refl _).alloc _⟩
            rw [hw10]
            clear hw10
            have hs8 := hs7.ext hx10
            have ho8 := ho7.ext hx10
            have hS8 := hS7.ext hx10
            have q0 := heap_lt hs8
            have q1 := heap_lt ho8
            have q2 := heap_lt hS8
            have q3 := heap_lt hT
            have HT := Lib.hid hT
            have HX10 := Lib.hid hx10
            generalize wr.heap.size = b12 at *
            have k0 : w10.cell? (⟨b0 + 1 + 1 + 1 + 1, 0, none⟩ : Addr) = some (.int .i32 color.cl.a) := cell_of_heap hS8 rfl
            have k1 : w10.cell? (⟨b0 + 1 + 1 + 1 + 1, 1, none⟩ : Addr) = some (.int .i32 color.cl.b) := cell_of_heap hS8 rfl
            have k2 : w10.cell? (⟨b0 + 1 + 1 + 1 + 1, 2, none⟩ : Addr) = some (.int .i32 color.cl.c) := cell_of_heap hS8 rfl
            have k3 : w10.cell? (⟨b0 + 1 + 1 + 1 + 1, 3, none⟩ : Addr) = some (.int .i32 color.cl.d) := cell_of_heap hS8 rfl
            have k4 : w10.cell? (⟨b0 + 1 + 1, 0, none⟩ : Addr) = some (.int .i32 old.a) := cell_of_heap ho8 rfl
            have k5 : w10.cell? (⟨b0 + 1 + 1, 1, none⟩ : Addr) = some (.int .i32 old.b) := cell_of_heap ho8 rfl
            have k6 : w10.cell? (⟨b0 + 1 + 1, 2, none⟩ : Addr) = some (.int .i32 old.c) := cell_of_heap ho8 rfl
            have k7 : w10.cell? (⟨b0 + 1 + 1, 3, none⟩ : Addr) = some (.int .i32 old.d) := cell_of_heap ho8 rfl
            have k8 : w10.cell? (⟨b0, 30, none⟩ : Addr) = some (.int .i32 s.k.a) := cell_of_heap hs8 rfl
            have k9 : w10.cell? (⟨b0, 31, none⟩ : Addr) = some (.int .i32 s.k.b) := cell_of_heap hs8 rfl
            have k10 : w10.cell? (⟨b0, 32, none⟩ : Addr) = some (.int .i32 s.k.c) := cell_of_heap hs8 rfl
            have k11 : w10.cell? (⟨b0, 33, none⟩ : Addr) = some (.int .i32 s.k.d) := cell_of_heap hs8 rfl
            have k12 : w10.cell? (⟨b12, 0, none⟩ : Addr) = some (.int .i64 s.rgb.eqn) := cell_of_heap hT rfl
            have k13 : w10.cell? (⟨b12, 1, none⟩ : Addr) = some (.int .i64 s.rgb.src) := cell_of_heap hT rfl
            have k14 : w10.cell? (⟨b12, 2, none⟩ : Addr) = some (.int .i64 s.rgb.dst) := cell_of_heap hT rfl
            clear hs7 ho7 hr7 hS7 hs8 ho8 hS8 hT hx10
            have hbl := blOk_of HOK.out 2
            have hbe : blendOf s 2 = s.rgb := rfl
            rw [hbe] at hbl
            have e0 := hbl.2.1.1
            have e1 := hbl.2.1.2
            have e2 := hbl.2.2.1
            have e3 : s.rgb.dst ≤ 15 := by have := hbl.2.2.2; omega
            have heq : s.rgb.eqn = 1 ∨ s.rgb.eqn = 2 ∨ s.rgb.eqn = 3 := by have := hbl.1; omega
            clear hbl hbe
            go_cut [13] (fun v wc => v = .int .i32 (mulV color.cl.c (factorV s.rgb.src 2 color.cl old s.k)) ∧ Ext w10 wc)
            case first =>
              go_region_held3 (fun w' => w'.cell? (⟨b0 + 1 + 1 + 1 + 1, 0, none⟩ : Addr) = some (.int .i32 color.cl.a) ∧ w'.cell? (⟨b0 + 1 + 1 + 1 + 1, 1, none⟩ : Addr) = some (.int .i32 color.cl.b) ∧ w'.cell? (⟨b0 + 1 + 1 + 1 + 1, 2, none⟩ : Addr) = some (.int .i32 color.cl.c) ∧ w'.cell? (⟨b0 + 1 + 1 + 1 + 1, 3, none⟩ : Addr) = some (.int .i32 color.cl.d) ∧ w'.cell? (⟨b0 + 1 + 1, 0, none⟩ : Addr) = some (.int .i32 old.a) ∧ w'.cell? (⟨b0 + 1 + 1, 1, none⟩ : Addr) = some (.int .i32 old.b) ∧ w'.cell? (⟨b0 + 1 + 1, 2, none⟩ : Addr) = some (.int .i32 old.c) ∧ w'.cell? (⟨b0 + 1 + 1, 3, none⟩ : Addr) = some (.int .i32 old.d) ∧ w'.cell? (⟨b0, 30, none⟩ : Addr) = some (.int .i32 s.k.a) ∧ w'.cell? (⟨b0, 31, none⟩ : Addr) = some (.int .i32 s.k.b) ∧ w'.cell? (⟨b0, 32, none⟩ : Addr) = some (.int .i32 s.k.c) ∧ w'.cell? (⟨b0, 33, none⟩ : Addr) = some (.int .i32 s.k.d) ∧ w'.cell? (⟨b12, 0, none⟩ : Addr) = some (.int .i64 s.rgb.eqn) ∧ w'.cell? (⟨b12, 1, none⟩ : Addr) = some (.int .i64 s.rgb.src) ∧ w'.cell? (⟨b12, 2, none⟩ : Addr) = some (.int .i64 s.rgb.dst)) (go_keep) (first | (go_at_call 127; refine (rfactor_any _ 2 (by decide) e0 e1 color.cl old s.k _).mono ?_; rintro e w9 ⟨rfl, hx9⟩; have kk0 := hx9.cell k0; have kk1 := hx9.cell k1; have kk2 := hx9.cell k2; have kk3 := hx9.cell k3; have kk4 := hx9.cell k4; have kk5 := hx9.cell k5; have kk6 := hx9.cell k6; have kk7 := hx9.cell k7; have kk8 := hx9.cell k8; have kk9 := hx9.cell k9; have kk10 := hx9.cell k10; have kk11 := hx9.cell k11; have kk12 := hx9.cell k12; have kk13 := hx9.cell k13; have kk14 := hx9.cell k14) | (go_at_call 126; refine (rmul_any _ _ _).mono ?_; rintro e w11 ⟨rfl, rfl⟩))
              all_goals (go_wp2_with fail; go_meet)
              all_goals exact ⟨rfl, (Ext.refl _).drew.trans hx9⟩
            case rest =>
              obtain ⟨rfl, hxc⟩ := hcut
              rename World => wA
              have p0 := Nat.lt_of_lt_of_le q0 hxc.size
              have p1 := Nat.lt_of_lt_of_le q1 hxc.size
              have p2 := Nat.lt_of_lt_of_le q2 hxc.size
              have p3 := Nat.lt_of_lt_of_le q3 hxc.size
              have j0 := hxc.cell k0
              have j1 := hxc.cell k1
              have j2 := hxc.cell k2
              have j3 := hxc.cell k3
              have j4 := hxc.cell k4
              have j5 := hxc.cell k5
              have j6 := hxc.cell k6
              have j7 := hxc.cell k7
              have j8 := hxc.cell k8
              have j9 := hxc.cell k9
              have j10 := hxc.cell k10
              have j11 := hxc.cell k11
              have j12 := hxc.cell k12
              have j13 := hxc.cell k13
              have j14 := hxc.cell k14
              clear k0 k1 k2 k3 k4 k5 k6 k7 k8 k9 k10 k11 k12 k13 k14 q0 q1 q2 q3
              have k0 := j0
              have k1 := j1
              have k2 := j2
              have k3 := j3
              have k4 := j4
              have k5 := j5
              have k6 := j6
              have k7 := j7
              have k8 := j8
              have k9 := j9
              have k10 := j10
              have k11 := j11
              have k12 := j12
              have k13 := j13
              have k14 := j14
              clear j0 j1 j2 j3 j4 j5 j6 j7 j8 j9 j10 j11 j12 j13 j14
              go_upto_region 17 with fail
              go_cut [14] (fun v wc => v = .int .i32 (mulV old.c (factorV s.rgb.dst 2 color.cl old s.k)) ∧ Ext wA wc)
              case first =>
                go_region_held3 (fun w' => w'.cell? (⟨b0 + 1 + 1 + 1 + 1, 0, none⟩ : Addr) = some (.int .i32 color.cl.a) ∧ w'.cell? (⟨b0 + 1 + 1 + 1 + 1, 1, none⟩ : Addr) = some (.int .i32 color.cl.b) ∧ w'.cell? (⟨b0 + 1 + 1 + 1 + 1, 2, none⟩ : Addr) = some (.int .i32 color.cl.c) ∧ w'.cell? (⟨b0 + 1 + 1 + 1 + 1, 3, none⟩ : Addr) = some (.int .i32 color.cl.d) ∧ w'.cell? (⟨b0 + 1 + 1, 0, none⟩ : Addr) = some (.int .i32 old.a) ∧ w'.cell? (⟨b0 + 1 + 1, 1, none⟩ : Addr) = some (.int .i32 old.b) ∧ w'.cell? (⟨b0 + 1 + 1, 2, none⟩ : Addr) = some (.int .i32 old.c) ∧ w'.cell? (⟨b0 + 1 + 1, 3, none⟩ : Addr) = some (.int .i32 old.d) ∧ w'.cell? (⟨b0, 30, none⟩ : Addr) = some (.int .i32 s.k.a) ∧ w'.cell? (⟨b0, 31, none⟩ : Addr) = some (.int .i32 s.k.b) ∧ w'.cell? (⟨b0, 32, none⟩ : Addr) = some (.int .i32 s.k.c) ∧ w'.cell? (⟨b0, 33, none⟩ : Addr) = some (.int .i32 s.k.d) ∧ w'.cell? (⟨b12, 0, none⟩ : Addr) = some (.int .i64 s.rgb.eqn) ∧ w'.cell? (⟨b12, 1, none⟩ : Addr) = some (.int .i64 s.rgb.src) ∧ w'.cell? (⟨b12, 2, none⟩ : Addr) = some (.int .i64 s.rgb.dst)) (go_keep) (first | (go_at_call 127; refine (rfactor_any _ 2 (by decide) e2 e3 color.cl old s.k _).mono ?_; rintro e w9 ⟨rfl, hx9⟩; have kk0 := hx9.cell k0; have kk1 := hx9.cell k1; have kk2 := hx9.cell k2; have kk3 := hx9.cell k3; have kk4 := hx9.cell k4; have kk5 := hx9.cell k5; have kk6 := hx9.cell k6; have kk7 := hx9.cell k7; have kk8 := hx9.cell k8; have kk9 := hx9.cell k9; have kk10 := hx9.cell k10; have kk11 := hx9.cell k11; have kk12 := hx9.cell k12; have kk13 := hx9.cell k13; have kk14 := hx9.cell k14) | (go_at_call 126; refine (rmul_any _ _ _).mono ?_; rintro e w11 ⟨rfl, rfl⟩))
                all_goals (go_wp2_with fail; go_meet)
                all_goals exact ⟨rfl, (Ext.refl _).drew.trans hx9⟩
              case rest =>
                obtain ⟨rfl, hxd⟩ := hcut
                rename World => wB
                have HXA := Lib.hid ((HX10.out.trans hxc).trans hxd)
                have k14 := hxd.cell k12
                have r3 := Nat.lt_of_lt_of_le p3 hxd.size
                have fz : wB.frozen? ⟨b10, 2, none⟩ = false := free_of_heap (HV.out.ext HXA.out)
                have g5 := (HV.out.ext HXA.out).at 2 (by decide)
                have q4 := heap_lt (HV.out.ext HXA.out)
                have hz : mixCh s color.cl old 2 = zV s.rgb.eqn (mulV color.cl.c (factorV s.rgb.src 2 color.cl old s.k)) (mulV old.c (factorV s.rgb.dst 2 color.cl old s.k)) := rfl
                have HZ := Lib.hid hz
                clear hz hxc hxd p0 p1 p2 p3 k0 k1 k2 k3 k4 k5 k6 k7 k8 k9 k10 k11 k12 k13
                rcases heq with hq | hq | hq
                · have HS1 : Hid (mzStep s color.cl old 3 = { mzStep s color.cl old 2 with c := clV (addV (mulV color.cl.c (factorV s.rgb.src 2 color.cl old s.k)) (mulV old.c (factorV s.rgb.dst 2 color.cl old s.k))) }) := Lib.hid (by
                    have hz2 : mixCh s color.cl old 2 = addV (mulV color.cl.c (factorV s.rgb.src 2 color.cl old s.k)) (mulV old.c (factorV s.rgb.dst 2 color.cl old s.k)) := by rw [HZ.out, hq]; rfl
                    rw [← hz2]; rfl)
                  generalize (mulV color.cl.c (factorV s.rgb.src 2 color.cl old s.k)) = X at *
                  generalize (mulV old.c (factorV s.rgb.dst 2 color.cl old s.k)) = Y at *
                  go_wp2_with (first
                    | (go_at_call 128; refine (radd_any _ _ _).mono ?_; rintro _ _ ⟨rfl, rfl⟩)
                    | (go_at_call 129; refine (rsub_any _ _ _).mono ?_; rintro _ _ ⟨rfl, rfl⟩)
                    | (go_at_call 109; refine (rclamp_any _ _ _ _).mono ?_; rintro _ _ ⟨rfl, rfl⟩))
                  go_roundw
                  case rel =>
                    (repeat apply Exists.intro)
                    exact ⟨⟨3, by decide, rfl, by rw [HS1.out]; exact VAt.set2 (HV.out.ext HXA.out) _, (HCH.out.ext2 HXA.out).setCell (by simp) _⟩, rfl⟩
                  case measure => simp [intOf]
                · have HS1 : Hid (mzStep s color.cl old 3 = { mzStep s color.cl old 2 with c := clV (subV (mulV color.cl.c (factorV s.rgb.src 2 color.cl old s.k)) (mulV old.c (factorV s.rgb.dst 2 color.cl old s.k))) }) := Lib.hid (by
                    have hz2 : mixCh s color.cl old 2 = subV (mulV color.cl.c (factorV s.rgb.src 2 color.cl old s.k)) (mulV old.c (factorV s.rgb.dst 2 color.cl old s.k)) := by rw [HZ.out, hq]; rfl
                    rw [← hz2]; rfl)
                  generalize (mulV color.cl.c (factorV s.rgb.src 2 color.cl old s.k)) = X at *
                  generalize (mulV old.c (factorV s.rgb.dst 2 color.cl old s.k)) = Y at *
                  go_wp2_with (first
                    | (go_at_call 128; refine (radd_any _ _ _).mono ?_; rintro _ _ ⟨rfl, rfl⟩)
                    | (go_at_call 129; refine (rsub_any _ _ _).mono ?_; rintro _ _ ⟨rfl, rfl⟩)
                    | (go_at_call 109; refine (rclamp_any _ _ _ _).mono ?_; rintro _ _ ⟨rfl, rfl⟩))
                  go_roundw
                  case rel =>
                    (repeat apply Exists.intro)
                    exact ⟨⟨3, by decide, rfl, by rw [HS1.out]; exact VAt.set2 (HV.out.ext HXA.out) _, (HCH.out.ext2 HXA.out).setCell (by simp) _⟩, rfl⟩
                  case measure => simp [intOf]
                · have HS1 : Hid (mzStep s color.cl old 3 = { mzStep s color.cl old 2 with c := clV (subV (mulV old.c (factorV s.rgb.dst 2 color.cl old s.k)) (mulV color.cl.c (factorV s.rgb.src 2 color.cl old s.k))) }) := Lib.hid (by
                    have hz2 : mixCh s color.cl old 2 = subV (mulV old.c (factorV s.rgb.dst 2 color.cl old s.k)) (mulV color.cl.c (factorV s.rgb.src 2 color.cl old s.k)) := by rw [HZ.out, hq]; rfl
                    rw [← hz2]; rfl)
                  generalize (mulV color.cl.c (factorV s.rgb.src 2 color.cl old s.k)) = X at *
                  generalize (mulV old.c (factorV s.rgb.dst 2 color.cl old s.k)) = Y at *
                  go_wp2_with (first
                    | (go_at_call 128; refine (radd_any _ _ _).mono ?_; rintro _ _ ⟨rfl, rfl⟩)
                    | (go_at_call 129; refine (rsub_any _ _ _).mono ?_; rintro _ _ ⟨rfl, rfl⟩)
                    | (go_at_call 109; refine (rclamp_any _ _ _ _).mono ?_; rintro _ _ ⟨rfl, rfl⟩))
                  go_roundw
                  case rel =>
                    (repeat apply Exists.intro)
                    exact ⟨⟨3, by decide, rfl, by rw [HS1.out]; exact VAt.set2 (HV.out.ext HXA.out) _, (HCH.out.ext2 HXA.out).setCell (by simp) _⟩, rfl⟩
                  case measure => simp [intOf]
          · have r1 : (@Classical.epsilon _ neV (LdP 39 (.pointer (some ⟨b0, 24, none⟩)))).run Try.prog wr = .ok (.agg #[.int .i64 s.rgb.eqn, .int .i64 s.rgb.src, .int .i64 s.rgb.dst]) wr := hs7.loadR
            have r2 : (@Classical.epsilon _ neV (LdP 39 (.pointer (some ⟨b0, 27, none⟩)))).run Try.prog (wr.alloc (.cells #[.int .i64 s.rgb.eqn, .int .i64 s.rgb.src, .int .i64 s.rgb.dst] 39)) = .ok (.agg #[.int .i64 s.al.eqn, .int .i64 s.al.src, .int .i64 s.al.dst]) (wr.alloc (.cells #[.int .i64 s.rgb.eqn, .int .i64 s.rgb.src, .int .i64 s.rgb.dst] 39)) := (hs7.ext ((Ext.refl _).alloc _)).loadA
            go_upto_region 16 with fail
            clear r1 r2
            obtain ⟨w10, hw10, hT, hx10⟩ : ∃ w10, wr.alloc (.cells #[.int .i64 s.al.eqn, .int .i64 s.al.src, .int .i64 s.al.dst] 39) = w10 ∧ w10.heap[wr.heap.size]? = some (.cells #[.int .i64 s.al.eqn, .int .i64 s.al.src, .int .i64 s.al.dst] 39 (0, 0)) ∧ Ext wr w10 := ⟨_, rfl, heap_alloc_new _ _, (Ext.refl _).alloc _⟩
            rw [hw10]
            clear hw10
            have hs8 := hs7.ext hx10
            have ho8 := ho7.ext hx10
            have hS8 := hS7.ext hx10
            have q0 := heap_lt hs8
            have q1 := heap_lt ho8
            have q2 := heap_lt hS8
            have q3 := heap_lt hT
            have HT := Lib.hid hT
            have HX10 := Lib.hid hx10
            generalize wr.heap.size = b12 at *
            have k0 : w10.cell? (⟨b0 + 1 + 1 + 1 + 1, 0, none⟩ : Addr) = some (.int .i32 color.cl.a) := cell_of_heap hS8 rfl
            have k1 : w10.cell? (⟨b0 + 1 + 1 + 1 + 1, 1, none⟩ : Addr) = some (.int .i32 color.cl.b) := cell_of_heap hS8 rfl
            have k2 : w10.cell? (⟨b0 + 1 + 1 + 1 + 1, 2, none⟩ : Addr) = some (.int .i32 color.cl.c) := cell_of_heap hS8 rfl
            have k3 : w10.cell? (⟨b0 + 1 + 1 + 1 + 1, 3, none⟩ : Addr) = some (.int .i32 color.cl.d) := cell_of_heap hS8 rfl
            have k4 : w10.cell? (⟨b0 + 1 + 1, 0, none⟩ : Addr) = some (.int .i32 old.a) := cell_of_heap ho8 rfl
            have k5 : w10.cell? (⟨b0 + 1 + 1, 1, none⟩ : Addr) = some (.int .i32 old.b) := cell_of_heap ho8 rfl
            have k6 : w10.cell? (⟨b0 + 1 + 1, 2, none⟩ : Addr) = some (.int .i32 old.c) := cell_of_heap ho8 rfl
            have k7 : w10.cell? (⟨b0 + 1 + 1, 3, none⟩ : Addr) = some (.int .i32 old.d) := cell_of_heap ho8 rfl
            have k8 : w10.cell? (⟨b0, 30, none⟩ : Addr) = some (.int .i32 s.k.a) := cell_of_heap hs8 rfl
            have k9 : w10.cell? (⟨b0, 31, none⟩ : Addr) = some (.int .i32 s.k.b) := cell_of_heap hs8 rfl
            have k10 : w10.cell? (⟨b0, 32, none⟩ : Addr) = some (.int .i32 s.k.c) := cell_of_heap hs8 rfl
            have k11 : w10.cell? (⟨b0, 33, none⟩ : Addr) = some (.int .i32 s.k.d) := cell_of_heap hs8 rfl
            have k12 : w10.cell? (⟨b12, 0, none⟩ : Addr) = some (.int .i64 s.al.eqn) := cell_of_heap hT rfl
            have k13 : w10.cell? (⟨b12, 1, none⟩ : Addr) = some (.int .i64 s.al.src) := cell_of_heap hT rfl
            have k14 : w10.cell? (⟨b12, 2, none⟩ : Addr) = some (.int .i64 s.al.dst) := cell_of_heap hT rfl
            clear hs7 ho7 hr7 hS7 hs8 ho8 hS8 hT hx10
            have hbl := blOk_of HOK.out 3
            have hbe : blendOf s 3 = s.al := rfl
            rw [hbe] at hbl
            have e0 := hbl.2.1.1
            have e1 := hbl.2.1.2
            have e2 := hbl.2.2.1
            have e3 : s.al.dst ≤ 15 := by have := hbl.2.2.2; omega
            have heq : s.al.eqn = 1 ∨ s.al.eqn = 2 ∨ s.al.eqn = 3 := by have := hbl.1; omega
            clear hbl hbe
            go_cut [13] (fun v wc => v = .int .i32 (mulV color.cl.d (factorV s.al.src 3 color.cl old s.k)) ∧ Ext w10 wc)
            case first =>
              go_region_held3 (fun w' => w'.cell? (⟨b0 + 1 + 1 + 1 + 1, 0, none⟩ : Addr) = some (.int .i32 color.cl.a) ∧ w'.cell? (⟨b0 + 1 + 1 + 1 + 1, 1, none⟩ : Addr) = some (.int .i32 color.cl.b) ∧ w'.cell? (⟨b0 + 1 + 1 + 1 + 1, 2, none⟩ : Addr) = some (.int .i32 color.cl.c) ∧ w'.cell? (⟨b0 + 1 + 1 + 1 + 1, 3, none⟩ : Addr) = some (.int .i32 color.cl.d) ∧ w'.cell? (⟨b0 + 1 + 1, 0, none⟩ : Addr) = some (.int .i32 old.a) ∧ w'.cell? (⟨b0 + 1 + 1, 1, none⟩ : Addr) = some (.int .i32 old.b) ∧ w'.cell? (⟨b0 + 1 + 1, 2, none⟩ : Addr) = some (.int .i32 old.c) ∧ w'.cell? (⟨b0 + 1 + 1, 3, none⟩ : Addr) = some (.int .i32 old.d) ∧ w'.cell? (⟨b0, 30, none⟩ : Addr) = some (.int .i32 s.k.a) ∧ w'.cell? (⟨b0, 31, none⟩ : Addr) = some (.int .i32 s.k.b) ∧ w'.cell? (⟨b0, 32, none⟩ : Addr) = some (.int .i32 s.k.c) ∧ w'.cell? (⟨b0, 33, none⟩ : Addr) = some (.int .i32 s.k.d) ∧ w'.cell? (⟨b12, 0, none⟩ : Addr) = some (.int .i64 s.al.eqn) ∧ w'.cell? (⟨b12, 1, none⟩ : Addr) = some (.int .i64 s.al.src) ∧ w'.cell? (⟨b12, 2, none⟩ : Addr) = some (.int .i64 s.al.dst)) (go_keep) (first | (go_at_call 127; refine (rfactor_any _ 3 (by decide) e0 e1 color.cl old s.k _).mono ?_; rintro e w9 ⟨rfl, hx9⟩; have kk0 := hx9.cell k0; have kk1 := hx9.cell k1; have kk2 := hx9.cell k2; have kk3 := hx9.cell k3; have kk4 := hx9.cell k4; have kk5 := hx9.cell k5; have kk6 := hx9.cell k6; have kk7 := hx9.cell k7; have kk8 := hx9.cell k8; have kk9 := hx9.cell k9; have kk10 := hx9.cell k10; have kk11 := hx9.cell k11; have kk12 := hx9.cell k12; have kk13 := hx9.cell k13; have kk14 := hx9.cell k14) | (go_at_call 126; refine (rmul_any _ _ _).mono ?_; rintro e w11 ⟨rfl, rfl⟩))
              all_goals (go_wp2_with fail; go_meet)
              all_goals exact ⟨rfl, (Ext.refl _).drew.trans hx9⟩
            case rest =>
              obtain ⟨rfl, hxc⟩ := hcut
              rename World => wA
              have p0 := Nat.lt_of_lt_of_le q0 hxc.size
              have p1 := Nat.lt_of_lt_of_le q1 hxc.size
              have p2 := Nat.lt_of_lt_of_le q2 hxc.size
              have p3 := Nat.lt_of_lt_of_le q3 hxc.size
              have j0 := hxc.cell k0
              have j1 := hxc.cell k1
              have j2 := hxc.cell k2
              have j3 := hxc.cell k3
              have j4 := hxc.cell k4
              have j5 := hxc.cell k5
              have j6 := hxc.cell k6
              have j7 := hxc.cell k7
              have j8 := hxc.cell k8
              have j9 := hxc.cell k9
              have j10 := hxc.cell k10
              have j11 := hxc.cell k11
              have j12 := hxc.cell k12
              have j13 := hxc.cell k13
              have j14 := hxc.cell k14
              clear k0 k1 k2 k3 k4 k5 k6 k7 k8 k9 k10 k11 k12 k13 k14 q0 q1 q2 q3
              have k0 := j0
              have k1 := j1
              have k2 := j2
              have k3 := j3
              have k4 := j4
              have k5 := j5
              have k6 := j6
              have k7 := j7
              have k8 := j8
              have k9 := j9
              have k10 := j10
              have k11 := j11
              have k12 := j12
              have k13 := j13
              have k14 := j14
              clear j0 j1 j2 j3 j4 j5 j6 j7 j8 j9 j10 j11 j12 j13 j14
              go_upto_region 17 with fail
              go_cut [14] (fun v wc => v = .int .i32 (mulV old.d (factorV s.al.dst 3 color.cl old s.k)) ∧ Ext wA wc)
              case first =>
                go_region_held3 (fun w' => w'.cell? (⟨b0 + 1 + 1 + 1 + 1, 0, none⟩ : Addr) = some (.int .i32 color.cl.a) ∧ w'.cell? (⟨b0 + 1 + 1 + 1 + 1, 1, none⟩ : Addr) = some (.int .i32 color.cl.b) ∧ w'.cell? (⟨b0 + 1 + 1 + 1 + 1, 2, none⟩ : Addr) = some (.int .i32 color.cl.c) ∧ w'.cell? (⟨b0 + 1 + 1 + 1 + 1, 3, none⟩ : Addr) = some (.int .i32 color.cl.d) ∧ w'.cell? (⟨b0 + 1 + 1, 0, none⟩ : Addr) = some (.int .i32 old.a) ∧ w'.cell? (⟨b0 + 1 + 1, 1, none⟩ : Addr) = some (.int .i32 old.b) ∧ w'.cell? (⟨b0 + 1 + 1, 2, none⟩ : Addr) = some (.int .i32 old.c) ∧ w'.cell? (⟨b0 + 1 + 1, 3, none⟩ : Addr) = some (.int .i32 old.d) ∧ w'.cell? (⟨b0, 30, none⟩ : Addr) = some (.int .i32 s.k.a) ∧ w'.cell? (⟨b0, 31, none⟩ : Addr) = some (.int .i32 s.k.b) ∧ w'.cell? (⟨b0, 32, none⟩ : Addr) = some (.int .i32 s.k.c) ∧ w'.cell? (⟨b0, 33, none⟩ : Addr) = some (.int .i32 s.k.d) ∧ w'.cell? (⟨b12, 0, none⟩ : Addr) = some (.int .i64 s.al.eqn) ∧ w'.cell? (⟨b12, 1, none⟩ : Addr) = some (.int .i64 s.al.src) ∧ w'.cell? (⟨b12, 2, none⟩ : Addr) = some (.int .i64 s.al.dst)) (go_keep) (first | (go_at_call 127; refine (rfactor_any _ 3 (by decide) e2 e3 color.cl old s.k _).mono ?_; rintro e w9 ⟨rfl, hx9⟩; have kk0 := hx9.cell k0; have kk1 := hx9.cell k1; have kk2 := hx9.cell k2; have kk3 := hx9.cell k3; have kk4 := hx9.cell k4; have kk5 := hx9.cell k5; have kk6 := hx9.cell k6; have kk7 := hx9.cell k7; have kk8 := hx9.cell k8; have kk9 := hx9.cell k9; have kk10 := hx9.cell k10; have kk11 := hx9.cell k11; have kk12 := hx9.cell k12; have kk13 := hx9.cell k13; have kk14 := hx9.cell k14) | (go_at_call 126; refine (rmul_any _ _ _).mono ?_; rintro e w11 ⟨rfl, rfl⟩))
                all_goals (go_wp2_with fail; go_meet)
                all_goals exact ⟨rfl, (Ext.refl _).drew.trans hx9⟩
              case rest =>
                obtain ⟨rfl, hxd⟩ := hcut
                rename World => wB
                have HXA := Lib.hid ((HX10.out.trans hxc).trans hxd)
                have k14 := hxd.cell k12
                have r3 := Nat.lt_of_lt_of_le p3 hxd.size
                have fz : wB.frozen? ⟨b10, 3, none⟩ = false := free_of_heap (HV.out.ext HXA.out)
                have g5 := (HV.out.ext HXA.out).at 3 (by decide)
                have q4 := heap_lt (HV.out.ext HXA.out)
                have hz : mixCh s color.cl old 3 = zV s.al.eqn (mulV color.cl.d (factorV s.al.src 3 color.cl old s.k)) (mulV old.d (factorV s.al.dst 3 color.cl old s.k)) := rfl
                have HZ := Lib.hid hz
                clear hz hxc hxd p0 p1 p2 p3 k0 k1 k2 k3 k4 k5 k6 k7 k8 k9 k10 k11 k12 k13
                rcases heq with hq | hq | hq
                · have HS1 : Hid (mzStep s color.cl old 4 = { mzStep s color.cl old 3 with d := clV (addV (mulV color.cl.d (factorV s.al.src 3 color.cl old s.k)) (mulV old.d (factorV s.al.dst 3 color.cl old s.k))) }) := Lib.hid (by
                    have hz2 : mixCh s color.cl old 3 = addV (mulV color.cl.d (factorV s.al.src 3 color.cl old s.k)) (mulV old.d (factorV s.al.dst 3 color.cl old s.k)) := by rw [HZ.out, hq]; rfl
                    rw [← hz2]; rfl)
                  generalize (mulV color.cl.d (factorV s.al.src 3 color.cl old s.k)) = X at *
                  generalize (mulV old.d (factorV s.al.dst 3 color.cl old s.k)) = Y at *
                  go_wp2_with (first
                    | (go_at_call 128; refine (radd_any _ _ _).mono ?_; rintro _ _ ⟨rfl, rfl⟩)
                    | (go_at_call 129; refine (rsub_any _ _ _).mono ?_; rintro _ _ ⟨rfl, rfl⟩)
                    | (go_at_call 109; refine (rclamp_any _ _ _ _).mono ?_; rintro _ _ ⟨rfl, rfl⟩))
                  go_roundw
                  case rel =>
                    (repeat apply Exists.intro)
                    exact ⟨⟨4, by decide, rfl, by rw [HS1.out]; exact VAt.set3 (HV.out.ext HXA.out) _, (HCH.out.ext2 HXA.out).setCell (by simp) _⟩, rfl⟩
                  case measure => simp [intOf]
                · have HS1 : Hid (mzStep s color.cl old 4 = { mzStep s color.cl old 3 with d := clV (subV (mulV color.cl.d (factorV s.al.src 3 color.cl old s.k)) (mulV old.d (factorV s.al.dst 3 color.cl old s.k))) }) := Lib.hid (by
                    have hz2 : mixCh s color.cl old 3 = subV (mulV color.cl.d (factorV s.al.src 3 color.cl old s.k)) (mulV old.d (factorV s.al.dst 3 color.cl old s.k)) := by rw [HZ.out, hq]; rfl
                    rw [← hz2]; rfl)
                  generalize (mulV color.cl.d (factorV s.al.src 3 color.cl old s.k)) = X at *
                  generalize (mulV old.d (factorV s.al.dst 3 color.cl old s.k)) = Y at *
                  go_wp2_with (first
                    | (go_at_call 128; refine (radd_any _ _ _).mono ?_; rintro _ _ ⟨rfl, rfl⟩)
                    | (go_at_call 129; refine (rsub_any _ _ _).mono ?_; rintro _ _ ⟨rfl, rfl⟩)
                    | (go_at_call 109; refine (rclamp_any _ _ _ _).mono ?_; rintro _ _ ⟨rfl, rfl⟩))
                  go_roundw
                  case rel =>
                    (repeat apply Exists.intro)
                    exact ⟨⟨4, by decide, rfl, by rw [HS1.out]; exact VAt.set3 (HV.out.ext HXA.out) _, (HCH.out.ext2 HXA.out).setCell (by simp) _⟩, rfl⟩
                  case measure => simp [intOf]
                · have HS1 : Hid (mzStep s color.cl old 4 = { mzStep s color.cl old 3 with d := clV (subV (mulV old.d (factorV s.al.dst 3 color.cl old s.k)) (mulV color.cl.d (factorV s.al.src 3 color.cl old s.k))) }) := Lib.hid (by
                    have hz2 : mixCh s color.cl old 3 = subV (mulV old.d (factorV s.al.dst 3 color.cl old s.k)) (mulV color.cl.d (factorV s.al.src 3 color.cl old s.k)) := by rw [HZ.out, hq]; rfl
                    rw [← hz2]; rfl)
                  generalize (mulV color.cl.d (factorV s.al.src 3 color.cl old s.k)) = X at *
                  generalize (mulV old.d (factorV s.al.dst 3 color.cl old s.k)) = Y at *
                  go_wp2_with (first
                    | (go_at_call 128; refine (radd_any _ _ _).mono ?_; rintro _ _ ⟨rfl, rfl⟩)
                    | (go_at_call 129; refine (rsub_any _ _ _).mono ?_; rintro _ _ ⟨rfl, rfl⟩)
                    | (go_at_call 109; refine (rclamp_any _ _ _ _).mono ?_; rintro _ _ ⟨rfl, rfl⟩))
                  go_roundw
                  case rel =>
                    (repeat apply Exists.intro)
                    exact ⟨⟨4, by decide, rfl, by rw [HS1.out]; exact VAt.set3 (HV.out.ext HXA.out) _, (HCH.out.ext2 HXA.out).setCell (by simp) _⟩, rfl⟩
                  case measure => simp [intOf]
          · have ho : VAt wr b10 (V4.cl ⟨mixCh s color.cl old 0, mixCh s color.cl old 1, mixCh s color.cl old 2, mixCh s color.cl old 3⟩) := HV.out
            generalize V4.cl ⟨mixCh s color.cl old 0, mixCh s color.cl old 1, mixCh s color.cl old 2, mixCh s color.cl old 3⟩ = MX at *
            obtain ⟨t0, t1, t2, t3⟩ := ho.cell
            have lrr := heap_lt hr7
            have HXR := Lib.hid (HX6.out.chgTrans HCH.out (by rw [HB0.out]; simp; exact hbw))
            have hst := VAt.store hr7 MX
            have hsd := Lib.hid (VAt.stored hr7 MX)
            clear hs7 ho7 hr7 hS7 ho
            go_wp2_with fail
            have hload := run_loadVar_whole (P := Try.prog) 26 _ hsd.out Try.underlying26 rfl rfl
            refine bodyPost_ret (results_cell1 rfl _ _ _ _ rfl hload) rfl ?_
            exact ⟨by rw [HM.out], HXR.out.chgTrans (chg_setCells (b := b0 + 1 + 1 + 1) (M := [b0 + 1 + 1 + 1]) (by simp) _ 0 wr (Chg.refl _ _)) (by rw [HB0.out]; simp; omega)⟩
end
end Go.Proofs.Ytgdcdkajicgliaa
