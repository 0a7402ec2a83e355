/- Paints in their blocks; the walk of OpsApply. Conditions: each theorem's own premises. -/
import Derived.Test.YtagjjgookiodbaaOps23
namespace Go.Proofs.Ytagjjgookiodbaa
open Go.RowKit
set_option linter.unusedVariables false
set_option linter.unusedSimpArgs false

theorem Ld_Fr (v : Value) : Instr.loadAt 36 v = @Classical.epsilon _ neV (LdP 36 v) := Ld_fold _ _
def PAt (w : World) (b : Nat) (p : Pa) : Prop := w.heap[b]? = some (.cells p.C.toArray 40 (0, 0))
def Fr.nv (f : Fr) : Fr := { f with vars := .slice none 0 0 }
def Pa.nv (p : Pa) : Pa := { p with f := p.f.nv }
theorem PAt.ext {w w' : World} {b : Nat} {p : Pa} (h : PAt w b p) (x : Ext w w') : PAt w' b p := x.heap h
theorem PAt.chg {M : List Nat} {w w' : World} {b : Nat} {t : Pa} (h : PAt w b t) (x : Chg M w w') (hm : b ∉ M) : PAt w' b t := x.heap h hm
theorem PAt.set9 {w : World} {b : Nat} {p : Pa} (h : PAt w b p) : PAt (w.setCell ⟨b, 9, none⟩ (.slice none 0 0)) b p.nv := heap_set (k := 9) (u := .slice none 0 0) h
theorem PAt.loadF {w : World} {b : Nat} {p : Pa} (h : PAt w b p) : (@Classical.epsilon _ neV (LdP 36 (.pointer (some ⟨b, 0, none⟩)))).run Try.prog w = .ok (.agg p.f.C.toArray) w :=
  ld_ok _ (range_cells h (fun j v hv => by
    have hj : j < 10 := by have := (List.getElem?_eq_some_iff.1 hv).1; exact this
    have : j = 0 ∨ j = 1 ∨ j = 2 ∨ j = 3 ∨ j = 4 ∨ j = 5 ∨ j = 6 ∨ j = 7 ∨ j = 8 ∨ j = 9 := by omega
    rcases this with rfl | rfl | rfl | rfl | rfl | rfl | rfl | rfl | rfl | rfl <;> exact hv)) Try.underlying36 rfl rfl
theorem PAt.loadV {w : World} {b : Nat} {p : Pa} (h : PAt w b p) : (@Classical.epsilon _ neV (LdP 30 (.pointer (some ⟨b, 10, none⟩)))).run Try.prog w = .ok (.agg p.col.C.toArray) w :=
  ld_ok _ (range_cells h (fun j v hv => by
    have hj : j < 4 := by have := (List.getElem?_eq_some_iff.1 hv).1; exact this
    have : j = 0 ∨ j = 1 ∨ j = 2 ∨ j = 3 := by omega
    rcases this with rfl | rfl | rfl | rfl <;> exact hv)) Try.underlying30 rfl rfl
theorem PAt.loadC {w : World} {b : Nat} {p : Pa} (h : PAt w b p) : (@Classical.epsilon _ neV (LdP 38 (.pointer (some ⟨b, 14, none⟩)))).run Try.prog w = .ok (.agg p.ce.C.toArray) w :=
  ld_ok _ (range_cells h (fun j v hv => by
    have hj : j < 6 := by have := (List.getElem?_eq_some_iff.1 hv).1; exact this
    have : j = 0 ∨ j = 1 ∨ j = 2 ∨ j = 3 ∨ j = 4 ∨ j = 5 := by omega
    rcases this with rfl | rfl | rfl | rfl | rfl | rfl <;> exact hv)) Try.underlying38 rfl rfl
attribute [local go_sem ↓] Ld_V4 St_V4 Ld_St Ld_Fr Ld_Ce St_Ce
attribute [local go_sem ↓] eqC eqCz eqV eqVz
set_option maxHeartbeats 4000000 in
theorem apply_walk (s : St) (p : Pa) (w : World) : Calls Try.prog 3 #[.agg s.C.toArray, .agg p.C.toArray] w fun e w' => e = .returned (.bool true) ∧ Ext w w' := by
  obtain ⟨w2, hw2, hs, hp, hx⟩ : ∃ w2, (w.alloc (.cells s.C.toArray 33)).alloc (.cells p.C.toArray 40) = w2 ∧ StAt w2 w.heap.size s ∧ PAt w2 (w.heap.size + 1) p ∧ Ext w w2 := ⟨_, rfl, (heap_two _ _ _).1, (heap_two _ _ _).2, ((Ext.refl _).alloc _).alloc _⟩
  have HW := Lib.hid hw2
  clear hw2
  obtain ⟨A, hA⟩ : ∃ A, (applyR s p.nv.f p.nv.col p.nv.ce) = A := ⟨_, rfl⟩
  have HAPP : ∀ w, Calls Try.prog 11 #[.agg s.C.toArray, .agg p.nv.f.C.toArray, .agg p.nv.col.C.toArray, .agg p.nv.ce.C.toArray] w fun e w' => e = .returned (.tuple #[.agg A.1.C.toArray, .bool A.2.1, .int .i64 A.2.2]) ∧ Ext w w' := fun w => by rw [← hA]; exact apply_any s p.nv.f p.nv.col p.nv.ce w
  have HAP := Lib.hid HAPP
  have HA := Lib.hid hA
  clear HAPP hA
  have HN : p.nv.ce = p.ce := rfl
  have HNN := Lib.hid HN
  clear HN
  go_enter Try.func3, Try.ntmps3
  go_upto_region 1 with fail
  rw [HW.out]
  have HB : Hid (w.heap.size ≤ w.heap.size) := Lib.hid (Nat.le_refl _)
  generalize hb0 : w.heap.size = b0 at hs hp ⊢
  have HB0 := Lib.hid hb0
  clear hb0 HW HB
  go_upto_region 3 with (go_at_call 10; refine (wakes_any _).mono ?_; rintro _ w3 ⟨rfl, hx3⟩)
  have HS := Lib.hid (hs.ext hx3)
  have HP := Lib.hid (hp.ext hx3)
  have HX := Lib.hid (hx.trans hx3)
  clear hs hp hx hx3
  have c9 : w3.cell? ⟨b0 + 1, 9, none⟩ = some p.f.vars := cell_of_heap HP.out rfl
  have f9 : w3.frozen? ⟨b0 + 1, 9, none⟩ = false := free_of_heap HP.out
  have n0 := heap_lt HP.out
  have hp4 := HP.out.set9
  have hch : Chg [b0 + 1] w3 (w3.setCell ⟨b0 + 1, 9, none⟩ (.slice none 0 0)) := (Chg.refl _ _).setCell (by simp) _
  have hs4 : StAt _ b0 s := HS.out.chg hch (by simp)
  have HX4 := Lib.hid (HX.out.chgTrans hch (by rw [HB0.out]; simp))
  have HP4 := Lib.hid hp4
  have HS4 := Lib.hid hs4
  clear hp4 hch hs4 HS HP HX
  go_upto_region 4 with fail
  clear c9 f9 n0
  generalize w3.setCell ⟨b0 + 1, 9, none⟩ (.slice none 0 0) = w4 at *
  have l1 := HS4.out.load
  have l2 := HP4.out.loadF
  have l3 := HP4.out.loadV
  have l4 := HP4.out.loadC
  have n1 := heap_lt HS4.out
  have n2 := heap_lt HP4.out
  go_upto_region 5 with (go_at_call 11; refine (HAP.out _).mono ?_; rintro _ w5 ⟨rfl, hx5⟩; obtain ⟨w6, hst, h6, hx6⟩ := newC w5 A.1; have HC6 := Lib.hid h6; have HX6 := Lib.hid (hx5.trans hx6); clear h6 hx5 hx6)
  clear hst l1 l2 l3 l4 n1 n2
  generalize w5.heap.size = bc at *
  have HS6 := Lib.hid (HS4.out.ext HX6.out)
  have HP6 := Lib.hid (HP4.out.ext HX6.out)
  have HXA := Lib.hid (HX4.out.trans HX6.out)
  clear HS4 HP4 HX4 HX6
  have l1 := HS6.out.load
  have n1 := heap_lt HS6.out
  cases hok : stOk s
  · have HRT : ∀ w, Calls Try.prog 12 #[.agg s.C.toArray] w fun e w' => e = .returned (.bool false) ∧ Ext w w' := fun w => by have := right_any s w; rw [hok] at this; exact this
    have H2 := Lib.hid HRT
    have hz : A = (ceZ, false, 340) := by rw [← HA.out]; exact applyR_not hok _ _ _
    subst hz
    have HC6 : Hid (CAt w6 bc ceZ) := HC6
    clear HRT hok HA HAP
    go_upto_region 6 with (go_at_call 12; refine (H2.out _).mono ?_; rintro _ w8 ⟨rfl, hx8⟩; have HX8 := Lib.hid hx8)
    clear l1 n1
    have l1 := (HC6.out.ext HX8.out).load2
    have n1 := heap_lt (HC6.out.ext HX8.out)
    go_wp2_with fail
    all_goals go_ret
    all_goals exact ⟨by simp, HXA.out.trans HX8.out⟩
  · have HRT : ∀ w, Calls Try.prog 12 #[.agg s.C.toArray] w fun e w' => e = .returned (.bool true) ∧ Ext w w' := fun w => by have := right_any s w; rw [hok] at this; exact this
    have H2 := Lib.hid HRT
    clear HRT
    have HOK := Lib.hid hok
    clear hok
    go_upto_region 7 with (go_at_call 12; refine (H2.out _).mono ?_; rintro _ w8 ⟨rfl, hx8⟩; have HX8 := Lib.hid hx8)
    clear l1 n1
    have HS8 := Lib.hid (HS6.out.ext HX8.out)
    have HP8 := Lib.hid (HP6.out.ext HX8.out)
    have HC8 := Lib.hid (HC6.out.ext HX8.out)
    have HXB := Lib.hid (HXA.out.trans HX8.out)
    clear HS6 HP6 HC6 HXA HX8 hx8
    have l2 := HP8.out.loadC
    have n2 := heap_lt HP8.out
    cases hco : ceOk p.ce
    · have HRC : ∀ w, Calls Try.prog 13 #[.agg p.nv.ce.C.toArray] w fun e w' => e = .returned (.bool false) ∧ Ext w w' := fun w => by have := rcell_any p.nv.ce w; rw [HNN.out, hco] at this; exact this
      have H3 := Lib.hid HRC
      have hz : A = (ceZ, false, 2) := by rw [← HA.out]; exact applyR_arg HOK.out (by rw [HNN.out]; exact hco) _ _
      subst hz
      have HC8 : Hid (CAt w8 bc ceZ) := HC8
      clear HRC hco HA HAP
      go_upto_region 8 with (go_at_call 13; refine (H3.out _).mono ?_; rintro _ w9 ⟨rfl, hx9⟩; have HX9 := Lib.hid hx9)
      clear l2 n2
      have l1 := (HC8.out.ext HX9.out).load2
      have n1 := heap_lt (HC8.out.ext HX9.out)
      go_wp2_with fail
      all_goals go_ret
      all_goals exact ⟨by simp, HXB.out.trans HX9.out⟩
    · have HRC : ∀ w, Calls Try.prog 13 #[.agg p.nv.ce.C.toArray] w fun e w' => e = .returned (.bool true) ∧ Ext w w' := fun w => by have := rcell_any p.nv.ce w; rw [HNN.out, hco] at this; exact this
      have H3 := Lib.hid HRC
      have hco' : ceOk p.nv.ce = true := by rw [HNN.out]; exact hco
      have hz : A = ((applyV s p.nv.f p.nv.col p.nv.ce).1, (applyV s p.nv.f p.nv.col p.nv.ce).2, 0) := by rw [← HA.out]; exact applyR_ok HOK.out hco' _ _
      have HRA := Lib.hid (fun w => rapply_any s HOK.out p.nv.f p.nv.col p.nv.ce hco' w)
      generalize applyV s p.nv.f p.nv.col p.nv.ce = V at *
      obtain ⟨V1, V2⟩ := V
      subst hz
      have HC8 : Hid (CAt w8 bc V1) := HC8
      clear HRC hco hco' HA HAP
      go_upto_region 9 with (go_at_call 13; refine (H3.out _).mono ?_; rintro _ w9 ⟨rfl, hx9⟩; have HX9 := Lib.hid hx9)
      clear l2 n2
      have HS9 := Lib.hid (HS8.out.ext HX9.out)
      have HP9 := Lib.hid (HP8.out.ext HX9.out)
      have HC9 := Lib.hid (HC8.out.ext HX9.out)
      have HXC := Lib.hid (HXB.out.trans HX9.out)
      clear HS8 HP8 HC8 HXB HX9 hx9
      have l1 := HS9.out.load
      have l2 := HP9.out.loadF
      have l3 := HP9.out.loadV
      have l4 := HP9.out.loadC
      have n1 := heap_lt HS9.out
      have n2 := heap_lt HP9.out
      go_upto_region 10 with (go_at_call 14; refine (HRA.out _).mono ?_; rintro _ w10 ⟨rfl, hx10⟩; obtain ⟨w11, hst, h11, hx11⟩ := newC w10 V1; have HD := Lib.hid h11; have HXD := Lib.hid (hx10.trans hx11); clear h11 hx10 hx11)
      clear hst l1 l2 l3 l4 n1 n2
      generalize w10.heap.size = bd at *
      have l1 := (HC9.out.ext HXD.out).load2
      have l2 := HD.out.load2
      have n1 := heap_lt (HC9.out.ext HXD.out)
      have n2 := heap_lt HD.out
      go_wp2_with fail
      all_goals go_ret
      all_goals exact ⟨by simp, HXC.out.trans HXD.out⟩
theorem apply_arg (W : World) (v0 v1 : Value) (h0 : ArgIs Try.prog W 33 v0) (h1 : ArgIs Try.prog W 40 v1) : Calls Try.prog 3 #[v0, v1] W fun e w' => e = .returned (.bool true) ∧ Ext W w' := by
  obtain ⟨s, rfl⟩ := stIn h0
  obtain ⟨p, rfl⟩ := paintIn h1
  exact apply_walk s p W
end Go.Proofs.Ytagjjgookiodbaa
