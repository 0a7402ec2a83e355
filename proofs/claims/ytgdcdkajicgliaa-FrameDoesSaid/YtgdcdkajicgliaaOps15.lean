/- Contract of Mix. Conditions: each theorem's own premises. -/
import Derived.Test.YtgdcdkajicgliaaOps9
namespace Go.Proofs.Ytgdcdkajicgliaa
open Go.RowKit
set_option linter.unusedVariables false
set_option maxRecDepth 100000
set_option linter.unusedSimpArgs false
attribute [local go_sem ↓] Ld_V4 St_V4 Ld_St Ld_Bl
attribute [local go_sem] idxD0 idxD1 idxD2 idxD3

theorem heap_four (w : World) (A B C D : Obj) : ∃ w4, (((w.alloc A).alloc B).alloc C).alloc D = w4 ∧ w4.heap[w.heap.size]? = some A ∧ w4.heap[w.heap.size + 1]? = some B ∧ w4.heap[w.heap.size + 1 + 1]? = some C ∧ w4.heap[w.heap.size + 1 + 1 + 1]? = some D ∧ Ext w w4 := by
  have e : Ext (((w.alloc A).alloc B).alloc C) ((((w.alloc A).alloc B).alloc C).alloc D) := (Ext.refl _).alloc _
  refine ⟨_, rfl, e.heap (heap_first _ _ _ _), e.heap (heap_second _ _ _ _), e.heap (heap_third _ _ _ _), ?_, ((((Ext.refl _).alloc _).alloc _).alloc _).alloc _⟩
  have := heap_alloc_new (((w.alloc A).alloc B).alloc C) D
  simpa using this
theorem VAt.load2 {w : World} {b : Nat} {v : V4} (h : VAt w b v) : (@Classical.epsilon _ neV (LdP 26 (.pointer (some ⟨b, 0, none⟩)))).run Try.prog w = .ok (.agg v.C.toArray) w := h.load
theorem VAt.store2 {w : World} {b : Nat} {v : V4} (h : VAt w b v) (u : V4) : (@Classical.epsilon _ neU (StP 26 (.pointer (some ⟨b, 0, none⟩)) (.agg u.C.toArray))).run Try.prog w = .ok () (w.setCells b 0 u.C) := h.store u
def zero4 : V4 := ⟨0, 0, 0, 0⟩
def mxStep (s : St) (c old : V4) : Nat → V4
  | 0 => c
  | 1 => { c with a := mixCh s c old 0 }
  | 2 => { c with a := mixCh s c old 0, b := mixCh s c old 1 }
  | 3 => { c with a := mixCh s c old 0, b := mixCh s c old 1, c := mixCh s c old 2 }
  | _ => ⟨mixCh s c old 0, mixCh s c old 1, mixCh s c old 2, mixCh s c old 3⟩
def mixR (s : St) (color old : V4) : V4 := if stOk s then mixV s color old else zero4
set_option maxHeartbeats 8000000 in
set_option maxRecDepth 30000 in
theorem mix_any (s : St) (color old : V4) (w : World) : Calls Try.prog 101 #[.agg s.C.toArray, .agg color.C.toArray, .agg old.C.toArray] w fun e w' =>
    e = .returned (.agg (mixR s color old).C.toArray) ∧ Ext w w' := by
  obtain ⟨w4, hw4, hs, hc, ho, hr, hx⟩ := heap_four w (.cells s.C.toArray 42) (.cells color.C.toArray 26) (.cells old.C.toArray 26) (.cells #[.int .i32 0, .int .i32 0, .int .i32 0, .int .i32 0] 26)
  have HW := Lib.hid hw4
  clear hw4
  go_enter Try.func101, Try.ntmps101
  go_upto_region 1 with fail
  rw [HW.out]
  have HB : Hid (w.heap.size ≤ w.heap.size) := Lib.hid (Nat.le_refl _)
  generalize hb0 : w.heap.size = b0 at hs hc ho hr ⊢
  rw [hb0] at HB
  have HB0 := Lib.hid hb0
  clear hb0
  have hl1 := StAt.load hs
  have ls := heap_lt hs
  have lc := heap_lt hc
  have lo := heap_lt ho
  have lr := heap_lt hr
  have HC : Hid (VAt w4 (b0 + 1) color) := Lib.hid hc
  have HO : Hid (VAt w4 (b0 + 1 + 1) old) := Lib.hid ho
  have HR : Hid (VAt w4 (b0 + 1 + 1 + 1) zero4) := Lib.hid hr
  have HS : Hid (StAt w4 b0 s) := Lib.hid hs
  have HX := Lib.hid hx
  clear hs hc ho hr hx
  by_cases hok : stOk s = true
  · have HOK := Lib.hid hok
    have HK := Lib.hid (show mixR s color old = mixV s color old by unfold mixR; rw [if_pos hok])
    have HCK : ∀ w, Calls Try.prog 58 #[.agg s.C.toArray] w fun e w' => e = .returned (.int .i64 0) ∧ Ext w w' := fun w => by have := check_any s w; rw [if_pos hok] at this; exact this
    have HCK := Lib.hid HCK
    clear hok
    go_upto_region 4 with (first
      | (go_at_call 58; refine (HCK.out _).mono ?_; rintro _ w5 ⟨rfl, hx5⟩; have hl2 := (HC.out.ext hx5).load2; have HX5 := Lib.hid hx5)
      | (go_at_call 119; refine (clamp_any color _).mono ?_; rintro _ w6 ⟨rfl, hx6⟩; have hst := ((HC.out.ext HX5.out).ext hx6).store2 color.cl; have HX6 := Lib.hid hx6))
    have hc7 := ((HC.out.ext HX5.out).ext HX6.out).stored color.cl
    have hch7 := chg_setCells (b := b0 + 1) (M := [b0 + 1]) (by simp) color.cl.C 0 w6 (Chg.refl _ _)
    have hs7 : StAt _ b0 s := hch7.heap ((HS.out.ext HX5.out).ext HX6.out) (by simp)
    have ho7 := ((HO.out.ext HX5.out).ext HX6.out).chg hch7 (by simp)
    have hr7 := ((HR.out.ext HX5.out).ext HX6.out).chg hch7 (by simp; omega)
    have hx7 : Ext w (w6.setCells (b0 + 1) 0 color.cl.C) := ((HX.out.trans HX5.out).trans HX6.out).chgTrans hch7 (by rw [HB0.out]; simp)
    have hx56 := Lib.hid (HX5.out.trans HX6.out)
    clear hch7 hst hl1 hl2 HC HO HR HS hx5 hx6 HX5 HX6
    generalize w6.setCells (b0 + 1) 0 color.cl.C = w7 at *
    clear HX HCK HW hx56
    have HC7 := Lib.hid hc7
    have HS7 := Lib.hid hs7
    have HO7 := Lib.hid ho7
    have HR7 := Lib.hid hr7
    have HX7 := Lib.hid hx7
    have l4 := hc7.load2
    have l5 := ho7.load2
    have lk := hs7.loadK
    have cbl : w7.cell? ⟨b0, 23, none⟩ = some (.bool s.bl) := cell_of_heap hs7 rfl
    have ls := heap_lt hs7
    have lc := heap_lt hc7
    have lo := heap_lt ho7
    have lr := heap_lt hr7
    have hst := hr7.store2 color.cl
    have hsd := Lib.hid (hr7.stored color.cl)
    clear hc7 hs7 ho7 hr7 hx7
    cases hbl : s.bl
    · have HM := Lib.hid (show mixV s color old = color.cl by unfold mixV; rw [hbl]; rfl)
      go_wp2_with fail
      have hload := run_loadVar_whole (P := Try.prog) 26 _ hsd.out Try.underlying26 rfl rfl
      refine bodyPost_ret (results_cell1 rfl _ _ _ _ rfl hload) rfl ?_
      exact ⟨by rw [HK.out, HM.out], HX7.out.chgTrans (chg_setCells (b := b0 + 1 + 1 + 1) (M := [b0 + 1 + 1 + 1]) (by simp) _ 0 w7 (Chg.refl _ _)) (by rw [HB0.out]; simp; omega)⟩
    · clear hst hsd
      have HM := Lib.hid (show mixV s color old = V4.cl ⟨mixCh s color.cl old 0, mixCh s color.cl old 1, mixCh s color.cl old 2, mixCh s color.cl old 3⟩ by unfold mixV; rw [hbl]; rfl)
      go_upto_region 8 with (go_at_call 120; refine (factors_any color.cl old s.k _).mono ?_; rintro _ w8 ⟨ps, pd, pk, pf, rfl, hps, hpd, hpk, hpf, hx8⟩; have hl8 := (HC7.out.ext hx8).load2; have hst8 := VAt.store2 (v := zero4) (heap_alloc_new w8 (.cells #[.int .i32 0, .int .i32 0, .int .i32 0, .int .i32 0] 26)) color.cl; have HPS := Lib.hid hps; have HPD := Lib.hid hpd; have HPK := Lib.hid hpk; have HPF := Lib.hid hpf; have HX8 := Lib.hid hx8; have HST8 := Lib.hid (VAt.stored (v := zero4) (heap_alloc_new w8 (.cells #[.int .i32 0, .int .i32 0, .int .i32 0, .int .i32 0] 26)) color.cl); have ls8 := heap_lt (HS7.out.ext hx8); have lr8 := heap_lt (HR7.out.ext hx8); clear hps hpd hpk hpf)
      have hb8s := (HX7.out.trans HX8.out).size
      have hx9 : Ext w8 ((w8.alloc (.cells #[.int .i32 0, .int .i32 0, .int .i32 0, .int .i32 0] 26)).setCells w8.heap.size 0 color.cl.C) := ((Ext.refl _).alloc _).chgTrans (chg_setCells (b := w8.heap.size) (M := [w8.heap.size]) (by simp) _ 0 _ (Chg.refl _ _)) (by simp)
      generalize hw9 : ((w8.alloc (.cells #[.int .i32 0, .int .i32 0, .int .i32 0, .int .i32 0] 26)).setCells w8.heap.size 0 color.cl.C) = w9 at *
      have HX9 := Lib.hid hx9
      have h0 : VAt w9 w8.heap.size color.cl := HST8.out
      have hps9 := HPS.out.ext hx9
      have hpd9 := HPD.out.ext hx9
      have hpk9 := HPK.out.ext hx9
      have hpf9 := hx9.heap HPF.out
      have hs9 := (HS7.out.ext HX8.out).ext hx9
      have hc9 := (HC7.out.ext HX8.out).ext hx9
      have ho9 := (HO7.out.ext HX8.out).ext hx9
      have hr9 := (HR7.out.ext HX8.out).ext hx9
      have n0 := heap_lt (HS7.out.ext HX8.out)
      have n1 := heap_lt (HC7.out.ext HX8.out)
      have n2 := heap_lt (HO7.out.ext HX8.out)
      have n3 := heap_lt (HR7.out.ext HX8.out)
      have n4 := heap_lt HPS.out
      have n5 := heap_lt HPD.out
      have n6 := heap_lt HPK.out
      have n7 := heap_lt HPF.out
      have n8 := heap_lt h0
      have HX := Lib.hid ((HX7.out.trans HX8.out).trans hx9)
      clear hw9 hl8 hst8 hx8 ls8 lr8 l4 l5 lk cbl ls lc lo lr hx9 HST8 HPS HPD HPK HPF HS7 HC7 HO7 HR7 HX7 HX8 HX9
      generalize w8.heap.size = b8 at *
      simp only [fnF]
      have HB8 := Lib.hid hb8s
      clear hb8s
      go_wp2_with fail
      go_loopw [29] (fun i wq => ∃ m : Nat, (m = 0 ∨ m = 1 ∨ m = 2 ∨ m = 3 ∨ m = 4) ∧ i = .int .i64 m ∧ VAt wq b8 (mxStep s color.cl old m) ∧ Chg [b8] w9 wq) (fun i _ => (4 - intOf i).toNat)
      case atStart => exact ⟨0, by decide, rfl, h0, Chg.refl _ _⟩
      case round =>
        clear h0
        obtain ⟨m, hm, rfl, hv, hch⟩ := hrel
        have hsr : StAt wr b0 s := hch.heap hs9 (by simp; omega)
        have hcr := hc9.chg hch (by simp; omega)
        have hor := ho9.chg hch (by simp; omega)
        have hrr := hr9.chg hch (by simp; omega)
        have hpsr := hps9.chg hch (by simp; omega)
        have hpdr := hpd9.chg hch (by simp; omega)
        have hpkr := hpk9.chg hch (by simp; omega)
        have hpfr := hch.heap hpf9 (by simp; omega)
        clear hs9 hc9 ho9 hr9 hps9 hpd9 hpk9 hpf9
        have lr8 := heap_lt hv
        have HV := Lib.hid hv
        have HCH := Lib.hid hch
        clear hv hch
        rcases hm with rfl | rfl | rfl | rfl | rfl
        · have r1 : (@Classical.epsilon _ neV (LdP 39 (.pointer (some ⟨b0, 24, none⟩)))).run Try.prog wr = .ok (.agg #[.int .i64 s.rgb.eqn, .int .i64 s.rgb.src, .int .i64 s.rgb.dst]) wr := hsr.loadR
          have r2 : (@Classical.epsilon _ neV (LdP 39 (.pointer (some ⟨b0, 27, none⟩)))).run Try.prog wr = .ok (.agg #[.int .i64 s.al.eqn, .int .i64 s.al.src, .int .i64 s.al.dst]) wr := hsr.loadA
          go_upto_region 12 with fail
          clear r1 r2
          obtain ⟨w10, hw10, hT, hx10⟩ : ∃ w10, wr.alloc (.cells #[.int .i64 s.rgb.eqn, .int .i64 s.rgb.src, .int .i64 s.rgb.dst] 39) = w10 ∧ w10.heap[wr.heap.size]? = some (.cells #[.int .i64 s.rgb.eqn, .int .i64 s.rgb.src, .int .i64 s.rgb.dst] 39 (0, 0)) ∧ Ext wr w10 := ⟨_, rfl, heap_alloc_new _ _, (Ext.refl _).alloc _⟩
          rw [hw10]
          clear hw10
          have g0 : w10.cell? ⟨wr.heap.size, 0, none⟩ = some (.int .i64 s.rgb.eqn) := cell_of_heap hT rfl
          have g1 : w10.cell? ⟨wr.heap.size, 1, none⟩ = some (.int .i64 s.rgb.src) := cell_of_heap hT rfl
          have g2 : w10.cell? ⟨wr.heap.size, 2, none⟩ = some (.int .i64 s.rgb.dst) := cell_of_heap hT rfl
          have g3 : w10.cell? ⟨b0 + 1, 0, none⟩ = some (.int .i32 (vget color.cl 0)) := (hcr.ext hx10).at 0 (by decide)
          have g4 : w10.cell? ⟨b0 + 1 + 1, 0, none⟩ = some (.int .i32 (vget old 0)) := (hor.ext hx10).at 0 (by decide)
          have q1 := heap_lt (hcr.ext hx10)
          have q2 := heap_lt (hor.ext hx10)
          have q3 := heap_lt hT
          have HF : ∀ (n : Nat) (f : Int), 1 ≤ f → f ≤ 15 → Calls Try.prog 132 #[.int .i64 f, .int .i64 ((0 : Nat) : Int), .pointer (some ⟨ps, 0, none⟩), .pointer (some ⟨pd, 0, none⟩), .pointer (some ⟨pf, 0, none⟩)] (w10.drewN n) fun e w' => e = .returned (.int .i32 (factorV f 0 color.cl old s.k)) ∧ ∃ k, w' = (w10.drewN n).drewN k := fun n f f0 f1 => factor_any f 0 (by decide) f0 f1 color.cl old s.k ps pd pk pf _ (hpsr.ext (hx10.drewN n)) (hpdr.ext (hx10.drewN n)) (hpkr.ext (hx10.drewN n)) ((hx10.drewN n).heap hpfr)
          have HF := Lib.hid HF
          have hbl := blOk_of HOK.out 0
          have hbe : blendOf s 0 = s.rgb := rfl
          rw [hbe] at hbl
          have e0 := hbl.2.1.1
          have e1 := hbl.2.1.2
          have e2 := hbl.2.2.1
          have e3 : s.rgb.dst ≤ 15 := by have := hbl.2.2.2; omega
          have heq : s.rgb.eqn = 1 ∨ s.rgb.eqn = 2 ∨ s.rgb.eqn = 3 := by have := hbl.1; omega
          have hz : mixCh s color.cl old 0 = zV s.rgb.eqn (mulV (vget color.cl 0) (factorV s.rgb.src 0 color.cl old s.k)) (mulV (vget old 0) (factorV s.rgb.dst 0 color.cl old s.k)) := rfl
          have fz : w10.frozen? ⟨b8, 0, none⟩ = false := free_of_heap (HV.out.ext hx10)
          have g5 := (HV.out.ext hx10).at 0 (by decide)
          have q4 := heap_lt (HV.out.ext hx10)
          have HX10 := Lib.hid hx10
          have HT := Lib.hid hT
          generalize wr.heap.size = b10 at *
          clear hbl hbe hsr hcr hor hrr hpsr hpdr hpkr hpfr hx10 hT
          go_quiet (first
            | (go_at_call 132; exact Calls.quiet_of (HF.out _ _ e0 e1))
            | (go_at_call 132; exact Calls.quiet_of (HF.out _ _ e2 e3))
            | (go_at_call 121; exact quiet_same (mulfix_any _ _ _)))
          have HZ := Lib.hid hz
          clear hz
          rcases heq with hq | hq | hq
          · have HS1 : Hid (mxStep s color.cl old 1 = { mxStep s color.cl old 0 with a := addV (mulV (vget color.cl 0) (factorV s.rgb.src 0 color.cl old s.k)) (mulV (vget old 0) (factorV s.rgb.dst 0 color.cl old s.k)) }) := Lib.hid (by
              have hz2 : mixCh s color.cl old 0 = addV (mulV (vget color.cl 0) (factorV s.rgb.src 0 color.cl old s.k)) (mulV (vget old 0) (factorV s.rgb.dst 0 color.cl old s.k)) := by rw [HZ.out, hq]; rfl
              rw [← hz2]; rfl)
            generalize (mulV (vget color.cl 0) (factorV s.rgb.src 0 color.cl old s.k)) = X at *
            generalize (mulV (vget old 0) (factorV s.rgb.dst 0 color.cl old s.k)) = Y at *
            go_wp2_with (first
              | (go_at_call 122; refine (addfix_any _ _ _).mono ?_; rintro _ _ ⟨rfl, rfl⟩)
              | (go_at_call 123; refine (subfix_any _ _ _).mono ?_; rintro _ _ ⟨rfl, rfl⟩))
            go_roundw
            case rel => exact ⟨1, by decide, rfl, by rw [HS1.out]; exact VAt.set0 (HV.out.ext (HX10.out.drewN _)) _, (HCH.out.ext2 (HX10.out.drewN _)).setCell (by simp) _⟩
            case measure => simp [intOf]
          · have HS1 : Hid (mxStep s color.cl old 1 = { mxStep s color.cl old 0 with a := subV (mulV (vget color.cl 0) (factorV s.rgb.src 0 color.cl old s.k)) (mulV (vget old 0) (factorV s.rgb.dst 0 color.cl old s.k)) }) := Lib.hid (by
              have hz2 : mixCh s color.cl old 0 = subV (mulV (vget color.cl 0) (factorV s.rgb.src 0 color.cl old s.k)) (mulV (vget old 0) (factorV s.rgb.dst 0 color.cl old s.k)) := by rw [HZ.out, hq]; rfl
              rw [← hz2]; rfl)
            generalize (mulV (vget color.cl 0) (factorV s.rgb.src 0 color.cl old s.k)) = X at *
            generalize (mulV (vget old 0) (factorV s.rgb.dst 0 color.cl old s.k)) = Y at *
            go_wp2_with (first
              | (go_at_call 122; refine (addfix_any _ _ _).mono ?_; rintro _ _ ⟨rfl, rfl⟩)
              | (go_at_call 123; refine (subfix_any _ _ _).mono ?_; rintro _ _ ⟨rfl, rfl⟩))
            go_roundw
            case rel => exact ⟨1, by decide, rfl, by rw [HS1.out]; exact VAt.set0 (HV.out.ext (HX10.out.drewN _)) _, (HCH.out.ext2 (HX10.out.drewN _)).setCell (by simp) _⟩
            case measure => simp [intOf]
          · have HS1 : Hid (mxStep s color.cl old 1 = { mxStep s color.cl old 0 with a := subV (mulV (vget old 0) (factorV s.rgb.dst 0 color.cl old s.k)) (mulV (vget color.cl 0) (factorV s.rgb.src 0 color.cl old s.k)) }) := Lib.hid (by
              have hz2 : mixCh s color.cl old 0 = subV (mulV (vget old 0) (factorV s.rgb.dst 0 color.cl old s.k)) (mulV (vget color.cl 0) (factorV s.rgb.src 0 color.cl old s.k)) := by rw [HZ.out, hq]; rfl
              rw [← hz2]; rfl)
            generalize (mulV (vget color.cl 0) (factorV s.rgb.src 0 color.cl old s.k)) = X at *
            generalize (mulV (vget old 0) (factorV s.rgb.dst 0 color.cl old s.k)) = Y at *
            go_wp2_with (first
              | (go_at_call 122; refine (addfix_any _ _ _).mono ?_; rintro _ _ ⟨rfl, rfl⟩)
              | (go_at_call 123; refine (subfix_any _ _ _).mono ?_; rintro _ _ ⟨rfl, rfl⟩))
            go_roundw
            case rel => exact ⟨1, by decide, rfl, by rw [HS1.out]; exact VAt.set0 (HV.out.ext (HX10.out.drewN _)) _, (HCH.out.ext2 (HX10.out.drewN _)).setCell (by simp) _⟩
            case measure => simp [intOf]
        · have r1 : (@Classical.epsilon _ neV (LdP 39 (.pointer (some ⟨b0, 24, none⟩)))).run Try.prog wr = .ok (.agg #[.int .i64 s.rgb.eqn, .int .i64 s.rgb.src, .int .i64 s.rgb.dst]) wr := hsr.loadR
          have r2 : (@Classical.epsilon _ neV (LdP 39 (.pointer (some ⟨b0, 27, none⟩)))).run Try.prog wr = .ok (.agg #[.int .i64 s.al.eqn, .int .i64 s.al.src, .int .i64 s.al.dst]) wr := hsr.loadA
          go_upto_region 12 with fail
          clear r1 r2
          obtain ⟨w10, hw10, hT, hx10⟩ : ∃ w10, wr.alloc (.cells #[.int .i64 s.rgb.eqn, .int .i64 s.rgb.src, .int .i64 s.rgb.dst] 39) = w10 ∧ w10.heap[wr.heap.size]? = some (.cells #[.int .i64 s.rgb.eqn, .int .i64 s.rgb.src, .int .i64 s.rgb.dst] 39 (0, 0)) ∧ Ext wr w10 := ⟨_, rfl, heap_alloc_new _ _, (Ext.refl _).alloc _⟩
          rw [hw10]
          clear hw10
          have g0 : w10.cell? ⟨wr.heap.size, 0, none⟩ = some (.int .i64 s.rgb.eqn) := cell_of_heap hT rfl
          have g1 : w10.cell? ⟨wr.heap.size, 1, none⟩ = some (.int .i64 s.rgb.src) := cell_of_heap hT rfl
          have g2 : w10.cell? ⟨wr.heap.size, 2, none⟩ = some (.int .i64 s.rgb.dst) := cell_of_heap hT rfl
          have g3 : w10.cell? ⟨b0 + 1, 1, none⟩ = some (.int .i32 (vget color.cl 1)) := (hcr.ext hx10).at 1 (by decide)
          have g4 : w10.cell? ⟨b0 + 1 + 1, 1, none⟩ = some (.int .i32 (vget old 1)) := (hor.ext hx10).at 1 (by decide)
          have q1 := heap_lt (hcr.ext hx10)
          have q2 := heap_lt (hor.ext hx10)
          have q3 := heap_lt hT
          have HF : ∀ (n : Nat) (f : Int), 1 ≤ f → f ≤ 15 → Calls Try.prog 132 #[.int .i64 f, .int .i64 ((1 : Nat) : Int), .pointer (some ⟨ps, 0, none⟩), .pointer (some ⟨pd, 0, none⟩), .pointer (some ⟨pf, 0, none⟩)] (w10.drewN n) fun e w' => e = .returned (.int .i32 (factorV f 1 color.cl old s.k)) ∧ ∃ k, w' = (w10.drewN n).drewN k := fun n f f0 f1 => factor_any f 1 (by decide) f0 f1 color.cl old s.k ps pd pk pf _ (hpsr.ext (hx10.drewN n)) (hpdr.ext (hx10.drewN n)) (hpkr.ext (hx10.drewN n)) ((hx10.drewN n).heap hpfr)
          have HF := Lib.hid HF
          have hbl := blOk_of HOK.out 1
          have hbe : blendOf s 1 = s.rgb := rfl
          rw [hbe] at hbl
          have e0 := hbl.2.1.1
          have e1 := hbl.2.1.2
          have e2 := hbl.2.2.1
          have e3 : s.rgb.dst ≤ 15 := by have := hbl.2.2.2; omega
          have heq : s.rgb.eqn = 1 ∨ s.rgb.eqn = 2 ∨ s.rgb.eqn = 3 := by have := hbl.1; omega
          have hz : mixCh s color.cl old 1 = zV s.rgb.eqn (mulV (vget color.cl 1) (factorV s.rgb.src 1 color.cl old s.k)) (mulV (vget old 1) (factorV s.rgb.dst 1 color.cl old s.k)) := rfl
          have fz : w10.frozen? ⟨b8, 1, none⟩ = false := free_of_heap (HV.out.ext hx10)
          have g5 := (HV.out.ext hx10).at 1 (by decide)
          have q4 := heap_lt (HV.out.ext hx10)
          have HX10 := Lib.hid hx10
          have HT := Lib.hid hT
          generalize wr.heap.size = b10 at *
          clear hbl hbe hsr hcr hor hrr hpsr hpdr hpkr hpfr hx10 hT
          go_quiet (first
            | (go_at_call 132; exact Calls.quiet_of (HF.out _ _ e0 e1))
            | (go_at_call 132; exact Calls.quiet_of (HF.out _ _ e2 e3))
            | (go_at_call 121; exact quiet_same (mulfix_any _ _ _)))
          have HZ := Lib.hid hz
          clear hz
          rcases heq with hq | hq | hq
          · have HS1 : Hid (mxStep s color.cl old 2 = { mxStep s color.cl old 1 with b := addV (mulV (vget color.cl 1) (factorV s.rgb.src 1 color.cl old s.k)) (mulV (vget old 1) (factorV s.rgb.dst 1 color.cl old s.k)) }) := Lib.hid (by
              have hz2 : mixCh s color.cl old 1 = addV (mulV (vget color.cl 1) (factorV s.rgb.src 1 color.cl old s.k)) (mulV (vget old 1) (factorV s.rgb.dst 1 color.cl old s.k)) := by rw [HZ.out, hq]; rfl
              rw [← hz2]; rfl)
            generalize (mulV (vget color.cl 1) (factorV s.rgb.src 1 color.cl old s.k)) = X at *
            generalize (mulV (vget old 1) (factorV s.rgb.dst 1 color.cl old s.k)) = Y at *
            go_wp2_with (first
              | (go_at_call 122; refine (addfix_any _ _ _).mono ?_; rintro _ _ ⟨rfl, rfl⟩)
              | (go_at_call 123; refine (subfix_any _ _ _).mono ?_; rintro _ _ ⟨rfl, rfl⟩))
            go_roundw
            case rel => exact ⟨2, by decide, rfl, by rw [HS1.out]; exact VAt.set1 (HV.out.ext (HX10.out.drewN _)) _, (HCH.out.ext2 (HX10.out.drewN _)).setCell (by simp) _⟩
            case measure => simp [intOf]
          · have HS1 : Hid (mxStep s color.cl old 2 = { mxStep s color.cl old 1 with b := subV (mulV (vget color.cl 1) (factorV s.rgb.src 1 color.cl old s.k)) (mulV (vget old 1) (factorV s.rgb.dst 1 color.cl old s.k)) }) := Lib.hid (by
              have hz2 : mixCh s color.cl old 1 = subV (mulV (vget color.cl 1) (factorV s.rgb.src 1 color.cl old s.k)) (mulV (vget old 1) (factorV s.rgb.dst 1 color.cl old s.k)) := by rw [HZ.out, hq]; rfl
              rw [← hz2]; rfl)
            generalize (mulV (vget color.cl 1) (factorV s.rgb.src 1 color.cl old s.k)) = X at *
            generalize (mulV (vget old 1) (factorV s.rgb.dst 1 color.cl old s.k)) = Y at *
            go_wp2_with (first
              | (go_at_call 122; refine (addfix_any _ _ _).mono ?_; rintro _ _ ⟨rfl, rfl⟩)
              | (go_at_call 123; refine (subfix_any _ _ _).mono ?_; rintro _ _ ⟨rfl, rfl⟩))
            go_roundw
            case rel => exact ⟨2, by decide, rfl, by rw [HS1.out]; exact VAt.set1 (HV.out.ext (HX10.out.drewN _)) _, (HCH.out.ext2 (HX10.out.drewN _)).setCell (by simp) _⟩
            case measure => simp [intOf]
          · have HS1 : Hid (mxStep s color.cl old 2 = { mxStep s color.cl old 1 with b := subV (mulV (vget old 1) (factorV s.rgb.dst 1 color.cl old s.k)) (mulV (vget color.cl 1) (factorV s.rgb.src 1 color.cl old s.k)) }) := Lib.hid (by
              have hz2 : mixCh s color.cl old 1 = subV (mulV (vget old 1) (factorV s.rgb.dst 1 color.cl old s.k)) (mulV (vget color.cl 1) (factorV s.rgb.src 1 color.cl old s.k)) := by rw [HZ.out, hq]; rfl
              rw [← hz2]; rfl)
            generalize (mulV (vget color.cl 1) (factorV s.rgb.src 1 color.cl old s.k)) = X at *
            generalize (mulV (vget old 1) (factorV s.rgb.dst 1 color.cl old s.k)) = Y at *
            go_wp2_with (first
              | (go_at_call 122; refine (addfix_any _ _ _).mono ?_; rintro _ _ ⟨rfl, rfl⟩)
              | (go_at_call 123; refine (subfix_any _ _ _).mono ?_; rintro _ _ ⟨rfl, rfl⟩))
            go_roundw
            case rel => exact ⟨2, by decide, rfl, by rw [HS1.out]; exact VAt.set1 (HV.out.ext (HX10.out.drewN _)) _, (HCH.out.ext2 (HX10.out.drewN _)).setCell (by simp) _⟩
            case measure => simp [intOf]
        · have r1 : (@Classical.epsilon _ neV (LdP 39 (.pointer (some ⟨b0, 24, none⟩)))).run Try.prog wr = .ok (.agg #[.int .i64 s.rgb.eqn, .int .i64 s.rgb.src, .int .i64 s.rgb.dst]) wr := hsr.loadR
          have r2 : (@Classical.epsilon _ neV (LdP 39 (.pointer (some ⟨b0, 27, none⟩)))).run Try.prog wr = .ok (.agg #[.int .i64 s.al.eqn, .int .i64 s.al.src, .int .i64 s.al.dst]) wr := hsr.loadA
          go_upto_region 12 with fail
          clear r1 r2
          obtain ⟨w10, hw10, hT, hx10⟩ : ∃ w10, wr.alloc (.cells #[.int .i64 s.rgb.eqn, .int .i64 s.rgb.src, .int .i64 s.rgb.dst] 39) = w10 ∧ w10.heap[wr.heap.size]? = some (.cells #[.int .i64 s.rgb.eqn, .int .i64 s.rgb.src, .int .i64 s.rgb.dst] 39 (0, 0)) ∧ Ext wr w10 := ⟨_, rfl, heap_alloc_new _ _, (Ext.refl _).alloc _⟩
          rw [hw10]
          clear hw10
          have g0 : w10.cell? ⟨wr.heap.size, 0, none⟩ = some (.int .i64 s.rgb.eqn) := cell_of_heap hT rfl
          have g1 : w10.cell? ⟨wr.heap.size, 1, none⟩ = some (.int .i64 s.rgb.src) := cell_of_heap hT rfl
          have g2 : w10.cell? ⟨wr.heap.size, 2, none⟩ = some (.int .i64 s.rgb.dst) := cell_of_heap hT rfl
          have g3 : w10.cell? ⟨b0 + 1, 2, none⟩ = some (.int .i32 (vget color.cl 2)) := (hcr.ext hx10).at 2 (by decide)
          have g4 : w10.cell? ⟨b0 + 1 + 1, 2, none⟩ = some (.int .i32 (vget old 2)) := (hor.ext hx10).at 2 (by decide)
          have q1 := heap_lt (hcr.ext hx10)
          have q2 := heap_lt (hor.ext hx10)
          have q3 := heap_lt hT
          have HF : ∀ (n : Nat) (f : Int), 1 ≤ f → f ≤ 15 → Calls Try.prog 132 #[.int .i64 f, .int .i64 ((2 : Nat) : Int), .pointer (some ⟨ps, 0, none⟩), .pointer (some ⟨pd, 0, none⟩), .pointer (some ⟨pf, 0, none⟩)] (w10.drewN n) fun e w' => e = .returned (.int .i32 (factorV f 2 color.cl old s.k)) ∧ ∃ k, w' = (w10.drewN n).drewN k := fun n f f0 f1 => factor_any f 2 (by decide) f0 f1 color.cl old s.k ps pd pk pf _ (hpsr.ext (hx10.drewN n)) (hpdr.ext (hx10.drewN n)) (hpkr.ext (hx10.drewN n)) ((hx10.drewN n).heap hpfr)
          have HF := Lib.hid HF
          have hbl := blOk_of HOK.out 2
          have hbe : blendOf s 2 = s.rgb := rfl
          rw [hbe] at hbl
          have e0 := hbl.2.1.1
          have e1 := hbl.2.1.2
          have e2 := hbl.2.2.1
          have e3 : s.rgb.dst ≤ 15 := by have := hbl.2.2.2; omega
          have heq : s.rgb.eqn = 1 ∨ s.rgb.eqn = 2 ∨ s.rgb.eqn = 3 := by have := hbl.1; omega
          have hz : mixCh s color.cl old 2 = zV s.rgb.eqn (mulV (vget color.cl 2) (factorV s.rgb.src 2 color.cl old s.k)) (mulV (vget old 2) (factorV s.rgb.dst 2 color.cl old s.k)) := rfl
          have fz : w10.frozen? ⟨b8, 2, none⟩ = false := free_of_heap (HV.out.ext hx10)
          have g5 := (HV.out.ext hx10).at 2 (by decide)
          have q4 := heap_lt (HV.out.ext hx10)
          have HX10 := Lib.hid hx10
          have HT := Lib.hid hT
          generalize wr.heap.size = b10 at *
          clear hbl hbe hsr hcr hor hrr hpsr hpdr hpkr hpfr hx10 hT
          go_quiet (first
            | (go_at_call 132; exact Calls.quiet_of (HF.out _ _ e0 e1))
            | (go_at_call 132; exact Calls.quiet_of (HF.out _ _ e2 e3))
            | (go_at_call 121; exact quiet_same (mulfix_any _ _ _)))
          have HZ := Lib.hid hz
          clear hz
          rcases heq with hq | hq | hq
          · have HS1 : Hid (mxStep s color.cl old 3 = { mxStep s color.cl old 2 with c := addV (mulV (vget color.cl 2) (factorV s.rgb.src 2 color.cl old s.k)) (mulV (vget old 2) (factorV s.rgb.dst 2 color.cl old s.k)) }) := Lib.hid (by
              have hz2 : mixCh s color.cl old 2 = addV (mulV (vget color.cl 2) (factorV s.rgb.src 2 color.cl old s.k)) (mulV (vget old 2) (factorV s.rgb.dst 2 color.cl old s.k)) := by rw [HZ.out, hq]; rfl
              rw [← hz2]; rfl)
            generalize (mulV (vget color.cl 2) (factorV s.rgb.src 2 color.cl old s.k)) = X at *
            generalize (mulV (vget old 2) (factorV s.rgb.dst 2 color.cl old s.k)) = Y at *
            go_wp2_with (first
              | (go_at_call 122; refine (addfix_any _ _ _).mono ?_; rintro _ _ ⟨rfl, rfl⟩)
              | (go_at_call 123; refine (subfix_any _ _ _).mono ?_; rintro _ _ ⟨rfl, rfl⟩))
            go_roundw
            case rel => exact ⟨3, by decide, rfl, by rw [HS1.out]; exact VAt.set2 (HV.out.ext (HX10.out.drewN _)) _, (HCH.out.ext2 (HX10.out.drewN _)).setCell (by simp) _⟩
            case measure => simp [intOf]
          · have HS1 : Hid (mxStep s color.cl old 3 = { mxStep s color.cl old 2 with c := subV (mulV (vget color.cl 2) (factorV s.rgb.src 2 color.cl old s.k)) (mulV (vget old 2) (factorV s.rgb.dst 2 color.cl old s.k)) }) := Lib.hid (by
              have hz2 : mixCh s color.cl old 2 = subV (mulV (vget color.cl 2) (factorV s.rgb.src 2 color.cl old s.k)) (mulV (vget old 2) (factorV s.rgb.dst 2 color.cl old s.k)) := by rw [HZ.out, hq]; rfl
              rw [← hz2]; rfl)
            generalize (mulV (vget color.cl 2) (factorV s.rgb.src 2 color.cl old s.k)) = X at *
            generalize (mulV (vget old 2) (factorV s.rgb.dst 2 color.cl old s.k)) = Y at *
            go_wp2_with (first
              | (go_at_call 122; refine (addfix_any _ _ _).mono ?_; rintro _ _ ⟨rfl, rfl⟩)
              | (go_at_call 123; refine (subfix_any _ _ _).mono ?_; rintro _ _ ⟨rfl, rfl⟩))
            go_roundw
            case rel => exact ⟨3, by decide, rfl, by rw [HS1.out]; exact VAt.set2 (HV.out.ext (HX10.out.drewN _)) _, (HCH.out.ext2 (HX10.out.drewN _)).setCell (by simp) _⟩
            case measure => simp [intOf]
          · have HS1 : Hid (mxStep s color.cl old 3 = { mxStep s color.cl old 2 with c := subV (mulV (vget old 2) (factorV s.rgb.dst 2 color.cl old s.k)) (mulV (vget color.cl 2) (factorV s.rgb.src 2 color.cl old s.k)) }) := Lib.hid (by
              have hz2 : mixCh s color.cl old 2 = subV (mulV (vget old 2) (factorV s.rgb.dst 2 color.cl old s.k)) (mulV (vget color.cl 2) (factorV s.rgb.src 2 color.cl old s.k)) := by rw [HZ.out, hq]; rfl
              rw [← hz2]; rfl)
            generalize (mulV (vget color.cl 2) (factorV s.rgb.src 2 color.cl old s.k)) = X at *
            generalize (mulV (vget old 2) (factorV s.rgb.dst 2 color.cl old s.k)) = Y at *
            go_wp2_with (first
              | (go_at_call 122; refine (addfix_any _ _ _).mono ?_; rintro _ _ ⟨rfl, rfl⟩)
              | (go_at_call 123; refine (subfix_any _ _ _).mono ?_; rintro _ _ ⟨rfl, rfl⟩))
            go_roundw
            case rel => exact ⟨3, by decide, rfl, by rw [HS1.out]; exact VAt.set2 (HV.out.ext (HX10.out.drewN _)) _, (HCH.out.ext2 (HX10.out.drewN _)).setCell (by simp) _⟩
            case measure => simp [intOf]
        · have r1 : (@Classical.epsilon _ neV (LdP 39 (.pointer (some ⟨b0, 24, none⟩)))).run Try.prog wr = .ok (.agg #[.int .i64 s.rgb.eqn, .int .i64 s.rgb.src, .int .i64 s.rgb.dst]) wr := hsr.loadR
          have r2 : (@Classical.epsilon _ neV (LdP 39 (.pointer (some ⟨b0, 27, none⟩)))).run Try.prog wr = .ok (.agg #[.int .i64 s.al.eqn, .int .i64 s.al.src, .int .i64 s.al.dst]) wr := hsr.loadA
          go_upto_region 12 with fail
          clear r1 r2
          obtain ⟨w10, hw10, hT, hx10⟩ : ∃ w10, wr.alloc (.cells #[.int .i64 s.al.eqn, .int .i64 s.al.src, .int .i64 s.al.dst] 39) = w10 ∧ w10.heap[wr.heap.size]? = some (.cells #[.int .i64 s.al.eqn, .int .i64 s.al.src, .int .i64 s.al.dst] 39 (0, 0)) ∧ Ext wr w10 := ⟨_, rfl, heap_alloc_new _ _, (Ext.refl _).alloc _⟩
          rw [hw10]
          clear hw10
          have g0 : w10.cell? ⟨wr.heap.size, 0, none⟩ = some (.int .i64 s.al.eqn) := cell_of_heap hT rfl
          have g1 : w10.cell? ⟨wr.heap.size, 1, none⟩ = some (.int .i64 s.al.src) := cell_of_heap hT rfl
          have g2 : w10.cell? ⟨wr.heap.size, 2, none⟩ = some (.int .i64 s.al.dst) := cell_of_heap hT rfl
          have g3 : w10.cell? ⟨b0 + 1, 3, none⟩ = some (.int .i32 (vget color.cl 3)) := (hcr.ext hx10).at 3 (by decide)
          have g4 : w10.cell? ⟨b0 + 1 + 1, 3, none⟩ = some (.int .i32 (vget old 3)) := (hor.ext hx10).at 3 (by decide)
          have q1 := heap_lt (hcr.ext hx10)
          have q2 := heap_lt (hor.ext hx10)
          have q3 := heap_lt hT
          have HF : ∀ (n : Nat) (f : Int), 1 ≤ f → f ≤ 15 → Calls Try.prog 132 #[.int .i64 f, .int .i64 ((3 : Nat) : Int), .pointer (some ⟨ps, 0, none⟩), .pointer (some ⟨pd, 0, none⟩), .pointer (some ⟨pf, 0, none⟩)] (w10.drewN n) fun e w' => e = .returned (.int .i32 (factorV f 3 color.cl old s.k)) ∧ ∃ k, w' = (w10.drewN n).drewN k := fun n f f0 f1 => factor_any f 3 (by decide) f0 f1 color.cl old s.k ps pd pk pf _ (hpsr.ext (hx10.drewN n)) (hpdr.ext (hx10.drewN n)) (hpkr.ext (hx10.drewN n)) ((hx10.drewN n).heap hpfr)
          have HF := Lib.hid HF
          have hbl := blOk_of HOK.out 3
          have hbe : blendOf s 3 = s.al := rfl
          rw [hbe] at hbl
          have e0 := hbl.2.1.1
          have e1 := hbl.2.1.2
          have e2 := hbl.2.2.1
          have e3 : s.al.dst ≤ 15 := by have := hbl.2.2.2; omega
          have heq : s.al.eqn = 1 ∨ s.al.eqn = 2 ∨ s.al.eqn = 3 := by have := hbl.1; omega
          have hz : mixCh s color.cl old 3 = zV s.al.eqn (mulV (vget color.cl 3) (factorV s.al.src 3 color.cl old s.k)) (mulV (vget old 3) (factorV s.al.dst 3 color.cl old s.k)) := rfl
          have fz : w10.frozen? ⟨b8, 3, none⟩ = false := free_of_heap (HV.out.ext hx10)
          have g5 := (HV.out.ext hx10).at 3 (by decide)
          have q4 := heap_lt (HV.out.ext hx10)
          have HX10 := Lib.hid hx10
          have HT := Lib.hid hT
          generalize wr.heap.size = b10 at *
          clear hbl hbe hsr hcr hor hrr hpsr hpdr hpkr hpfr hx10 hT
          go_quiet (first
            | (go_at_call 132; exact Calls.quiet_of (HF.out _ _ e0 e1))
            | (go_at_call 132; exact Calls.quiet_of (HF.out _ _ e2 e3))
            | (go_at_call 121; exact quiet_same (mulfix_any _ _ _)))
          have HZ := Lib.hid hz
          clear hz
          rcases heq with hq | hq | hq
          · have HS1 : Hid (mxStep s color.cl old 4 = { mxStep s color.cl old 3 with d := addV (mulV (vget color.cl 3) (factorV s.al.src 3 color.cl old s.k)) (mulV (vget old 3) (factorV s.al.dst 3 color.cl old s.k)) }) := Lib.hid (by
              have hz2 : mixCh s color.cl old 3 = addV (mulV (vget color.cl 3) (factorV s.al.src 3 color.cl old s.k)) (mulV (vget old 3) (factorV s.al.dst 3 color.cl old s.k)) := by rw [HZ.out, hq]; rfl
              rw [← hz2]; rfl)
            generalize (mulV (vget color.cl 3) (factorV s.al.src 3 color.cl old s.k)) = X at *
            generalize (mulV (vget old 3) (factorV s.al.dst 3 color.cl old s.k)) = Y at *
            go_wp2_with (first
              | (go_at_call 122; refine (addfix_any _ _ _).mono ?_; rintro _ _ ⟨rfl, rfl⟩)
              | (go_at_call 123; refine (subfix_any _ _ _).mono ?_; rintro _ _ ⟨rfl, rfl⟩))
            go_roundw
            case rel => exact ⟨4, by decide, rfl, by rw [HS1.out]; exact VAt.set3 (HV.out.ext (HX10.out.drewN _)) _, (HCH.out.ext2 (HX10.out.drewN _)).setCell (by simp) _⟩
            case measure => simp [intOf]
          · have HS1 : Hid (mxStep s color.cl old 4 = { mxStep s color.cl old 3 with d := subV (mulV (vget color.cl 3) (factorV s.al.src 3 color.cl old s.k)) (mulV (vget old 3) (factorV s.al.dst 3 color.cl old s.k)) }) := Lib.hid (by
              have hz2 : mixCh s color.cl old 3 = subV (mulV (vget color.cl 3) (factorV s.al.src 3 color.cl old s.k)) (mulV (vget old 3) (factorV s.al.dst 3 color.cl old s.k)) := by rw [HZ.out, hq]; rfl
              rw [← hz2]; rfl)
            generalize (mulV (vget color.cl 3) (factorV s.al.src 3 color.cl old s.k)) = X at *
            generalize (mulV (vget old 3) (factorV s.al.dst 3 color.cl old s.k)) = Y at *
            go_wp2_with (first
              | (go_at_call 122; refine (addfix_any _ _ _).mono ?_; rintro _ _ ⟨rfl, rfl⟩)
              | (go_at_call 123; refine (subfix_any _ _ _).mono ?_; rintro _ _ ⟨rfl, rfl⟩))
            go_roundw
            case rel => exact ⟨4, by decide, rfl, by rw [HS1.out]; exact VAt.set3 (HV.out.ext (HX10.out.drewN _)) _, (HCH.out.ext2 (HX10.out.drewN _)).setCell (by simp) _⟩
            case measure => simp [intOf]
          · have HS1 : Hid (mxStep s color.cl old 4 = { mxStep s color.cl old 3 with d := subV (mulV (vget old 3) (factorV s.al.dst 3 color.cl old s.k)) (mulV (vget color.cl 3) (factorV s.al.src 3 color.cl old s.k)) }) := Lib.hid (by
              have hz2 : mixCh s color.cl old 3 = subV (mulV (vget old 3) (factorV s.al.dst 3 color.cl old s.k)) (mulV (vget color.cl 3) (factorV s.al.src 3 color.cl old s.k)) := by rw [HZ.out, hq]; rfl
              rw [← hz2]; rfl)
            generalize (mulV (vget color.cl 3) (factorV s.al.src 3 color.cl old s.k)) = X at *
            generalize (mulV (vget old 3) (factorV s.al.dst 3 color.cl old s.k)) = Y at *
            go_wp2_with (first
              | (go_at_call 122; refine (addfix_any _ _ _).mono ?_; rintro _ _ ⟨rfl, rfl⟩)
              | (go_at_call 123; refine (subfix_any _ _ _).mono ?_; rintro _ _ ⟨rfl, rfl⟩))
            go_roundw
            case rel => exact ⟨4, by decide, rfl, by rw [HS1.out]; exact VAt.set3 (HV.out.ext (HX10.out.drewN _)) _, (HCH.out.ext2 (HX10.out.drewN _)).setCell (by simp) _⟩
            case measure => simp [intOf]
        · have ho : VAt wr b8 ⟨mixCh s color.cl old 0, mixCh s color.cl old 1, mixCh s color.cl old 2, mixCh s color.cl old 3⟩ := HV.out
          have l8 := ho.load2
          have lrr := heap_lt hrr
          have HXR := Lib.hid (HX.out.chgTrans HCH.out (by simp; exact HB8.out))
          have HRR := Lib.hid hrr
          clear hsr hcr hor hrr hpsr hpdr hpkr hpfr ho
          generalize (⟨mixCh s color.cl old 0, mixCh s color.cl old 1, mixCh s color.cl old 2, mixCh s color.cl old 3⟩ : V4) = MX at *
          go_wp2_with (go_at_call 119; refine (clamp_any MX _).mono ?_; rintro _ w11 ⟨rfl, hx11⟩; have hst := (HRR.out.ext hx11).store2 MX.cl; have hsd := Lib.hid ((HRR.out.ext hx11).stored MX.cl); have HX11 := Lib.hid hx11)
          have hload := run_loadVar_whole (P := Try.prog) 26 _ hsd.out Try.underlying26 rfl rfl
          refine bodyPost_ret (results_cell1 rfl _ _ _ _ rfl hload) rfl ?_
          exact ⟨by rw [HK.out, HM.out], (HXR.out.trans HX11.out).chgTrans (chg_setCells (b := b0 + 1 + 1 + 1) (M := [b0 + 1 + 1 + 1]) (by simp) _ 0 w11 (Chg.refl _ _)) (by rw [HB0.out]; simp; omega)⟩
  · have hok2 : stOk s = false := by simpa using hok
    have HK := Lib.hid (show mixR s color old = zero4 by unfold mixR; rw [if_neg hok])
    have HCK : ∀ w, Calls Try.prog 58 #[.agg s.C.toArray] w fun e w' => e = .returned (.int .i64 340) ∧ Ext w w' := fun w => by have := check_any s w; rw [if_neg hok] at this; exact this
    have HCK := Lib.hid HCK
    clear hok hok2
    go_wp2_with (go_at_call 58; refine (HCK.out _).mono ?_; rintro _ w5 ⟨rfl, hx5⟩; have hst := (HR.out.ext hx5).store zero4; have hsd := Lib.hid ((HR.out.ext hx5).stored zero4); have hx5' := Lib.hid hx5; simp only [zero4] at hst)
    have hload := run_loadVar_whole (P := Try.prog) 26 _ hsd.out Try.underlying26 rfl rfl
    refine bodyPost_ret (results_cell1 rfl _ _ _ _ rfl hload) rfl ?_
    exact ⟨by rw [HK.out], (HX.out.trans hx5'.out).chgTrans (chg_setCells (b := b0 + 1 + 1 + 1) (M := [b0 + 1 + 1 + 1]) (by simp) _ 0 w5 (Chg.refl _ _)) (by rw [HB0.out]; simp; omega)⟩
end Go.Proofs.Ytgdcdkajicgliaa
