/- The walk of BinsNone. Conditions: each theorem's own premises. -/
import Derived.Test.YtgdcdkajicgliaaBinN2
namespace Go.Proofs.Ytgdcdkajicgliaa
open Go.RowKit
set_option linter.unusedVariables false
set_option maxRecDepth 100000
attribute [local go_sem ↓] Ld_St Ld_Wk

theorem wk_cells {w : World} {b : Nat} {W H : Int} {d : Bool} {s : St} {o : Value} (h : WkAt w b W H d s o) : w.cell? ⟨b, 41, none⟩ = some o := cell_of_heap h rfl
theorem ls_nil {cb k : Nat} (h : lS cb (.slice none 0 0) [] k) : k = cb := by
  rcases h with rfl | hk | ⟨q, hq, _⟩
  · rfl
  · simp [Value.ownBlock] at hk
  · cases hq
set_option maxHeartbeats 8000000 in
theorem bnone_walk (W H : Int) (d : Bool) (s : St) (o v : Value) (L : List (Sk × Value)) (w : World) (hL : SksAt w v L) : Calls Try.prog 9 #[.agg (wkC W H d s o).toArray, v] w fun e w' => e = .returned (.bool true) ∧ Ext w w' := by
  have HL := Lib.hid hL
  clear hL
  refine calls_of_marks Try.func9 rfl ?_
  simp only [Try.ntmps9, List.size_toArray, List.length_cons, List.length_nil, Nat.reduceAdd, Nat.reduceSub, Array.replicate_succ, Array.replicate_zero, List.push_toArray, List.append_toArray, List.nil_append, List.cons_append]
  go_upto_region 1 with fail
  obtain ⟨w0, hw0, hwk, hres, hx0⟩ := heap2x w (.cells (wkC W H d s o).toArray 91) (.cells #[.bool false] 4)
  rw [hw0]
  obtain ⟨b0, hb0⟩ : ∃ b0, w.heap.size = b0 := ⟨_, rfl⟩
  rw [hb0] at hwk hres
  rw [hb0]
  have HB0 := Lib.hid hb0
  have HX0 := Lib.hid hx0
  clear hw0 hx0 hb0
  go_upto_region 4 with (first | (go_at_call 39; refine (wakes_any _).mono ?_; rintro _ w1 ⟨rfl, hx1⟩) | (go_at_call 40; refine (few_any v L _ (HL.out.ext (HX0.out.trans hx1))).mono ?_; rintro _ w2 ⟨a2, c2, L2, rfl, _, _, hx2⟩))
  have HWK := Lib.hid ((hx1.trans hx2).heap hwk)
  have HRES := Lib.hid ((hx1.trans hx2).heap hres)
  have HX2 := Lib.hid (HX0.out.trans (hx1.trans hx2))
  have l2 := WkAt.load HWK.out
  have n2 := heap_lt HWK.out
  clear hwk hres hx1 hx2 HX0
  go_upto_region 6 with (go_at_call 41; refine (planes_any W H d s o _).mono ?_; rintro _ w3 ⟨B, rfl, hp1, hp2, hp3, hp4, hpl, hx3⟩)
  have HWK3 := Lib.hid (hx3.heap HWK.out)
  have HRES3 := Lib.hid (hx3.heap HRES.out)
  have HX3 := Lib.hid (HX2.out.trans hx3)
  have HPL := Lib.hid hpl
  have l3 := WkAt.loadS HWK3.out
  have o3 := wk_cells HWK3.out
  have n3 := heap_lt HWK3.out
  clear hx3 hpl hp1 hp2 hp3 hp4 HWK HRES HX2 l2 n2
  go_upto_region 8 with (first | (go_at_call 47; refine (paint_nil _ s o _).mono ?_; rintro _ w4 ⟨rfl, hx4⟩) | (go_at_call 44; refine (tile_nil _ _ _).mono ?_; rintro _ _ ⟨rfl, rfl⟩))
  have HWK4 := Lib.hid (hx4.heap HWK3.out)
  have HRES4 := Lib.hid (hx4.heap HRES3.out)
  have HX4 := Lib.hid (HX3.out.trans hx4)
  have HPL4 := Lib.hid (HPL.out.ext hx4)
  have l4 := WkAt.loadS HWK4.out
  have n4 := heap_lt HWK4.out
  clear hx4 HWK3 HRES3 HX3 HPL l3 n3 o3
  go_upto_region 10 with (first | (go_at_call 50; refine (whole_nil s _ _).mono ?_; rintro _ w5 ⟨rfl, hx5⟩) | (go_at_call 42; refine (new_any 5 5 (by decide) (by decide) (by decide) (by decide) _).mono ?_; rintro _ w6 ⟨pc, gc, rfl, _, _, _, _, hx6⟩))
  have HWK6 := Lib.hid ((hx5.trans hx6).heap HWK4.out)
  have HRES6 := Lib.hid ((hx5.trans hx6).heap HRES4.out)
  have HX6 := Lib.hid (HX4.out.trans (hx5.trans hx6))
  have HPL6 := Lib.hid (HPL4.out.ext (hx5.trans hx6))
  have l6 := WkAt.loadS HWK6.out
  have n6 := heap_lt HWK6.out
  clear hx5 hx6 HWK4 HRES4 HX4 HPL4 l4 n4
  go_upto_region 11 with (go_at_call 47; refine (paint_nilp pc s _ _).mono ?_; rintro _ w7 ⟨rfl, hx7⟩)
  have hx7' := ((Ext.refl w6).alloc (.cells #[.int .i64 0] 3)).trans hx7
  have HWK7 := Lib.hid (hx7'.heap HWK6.out)
  have HRES7 := Lib.hid (hx7'.heap HRES6.out)
  have HX7 := Lib.hid (HX6.out.trans hx7')
  have HPL7 := Lib.hid (HPL6.out.ext hx7')
  clear hx7 hx7' HWK6 HRES6 HX6 HPL6 l6 n6
  go_wp2_with (go_at_call 51; refine (list_nil _).mono ?_; rintro _ w8 ⟨rfl, hcb, hx8⟩)
  have HCB := Lib.hid hcb
  have ncb := heap_lt hcb
  have HWK8 := Lib.hid (hx8.heap HWK7.out)
  have HRES8 := Lib.hid (hx8.heap HRES7.out)
  have HX8 := Lib.hid (HX7.out.trans hx8)
  have HPL8 := Lib.hid (HPL7.out.ext hx8)
  have hsz := HX8.out.size
  rw [HB0.out] at hsz
  clear hx8 hcb HWK7 HRES7 HX7 HPL7
  refine range_lawT rfl (enters_of Try.func82 (by kernel_rfl) rfl) (list_tells w7.heap.size (.slice none 0 0) [] w8 HCB.out ⟨SlC.nil _ _, by simp⟩ (by simp)) (Below.refl _ _) (fun k hk => by rw [ls_nil hk]; exact ncb) (fun k args W h => by obtain ⟨q, vs, hq, _⟩ := h; cases hq) (fun k args A B h _ => by obtain ⟨q, vs, hq, _⟩ := h; cases hq)
    (fun k W2 => Chg [] w8 W2) (fun c W2 => False) (fun k A B h t => h.turn t (Nat.le_refl _)) (fun c A B h t => h) (Chg.refl _ _)
    (fun _ _ _ _ _ => False) (fun _ _ _ _ _ _ h _ => h) ?assign ?body ?done ?stop
  case assign => intro l k args W2 K hk; exact absurd hk (Nat.not_lt_zero _)
  case body => intro l k args a' W2 hk; exact absurd hk (Nat.not_lt_zero _)
  case stop => rintro D c W2 _ h; exact h.elim
  case done =>
    rintro D W2 hD hch hDW
    have HMK := Lib.hid ((Marks.nil b0 w8).more hch (by simp) hsz hD hDW)
    have hwk := hch.heap HWK8.out (by simp)
    have hres := hch.heap HRES8.out (by simp)
    have HX9 := Lib.hid (HX8.out.chgTrans hch (by simp))
    have HPL9 := Lib.hid (HPL8.out.chg hch (by simp) (by simp) (by simp) (by simp))
    have HWK9 := Lib.hid hwk
    have HRES9 := Lib.hid hres
    clear hch hwk hres hDW HCB HWK8 HRES8 HX8 HPL8 ncb
    go_upto_region 14 with (go_at_call 42; refine (new_any 41 41 (by decide) (by decide) (by decide) (by decide) _).mono ?_; rintro _ w10 ⟨pd, gd, rfl, _, _, hbd, _, hx10⟩)
    have HBD := Lib.hid hbd
    have HX10 := Lib.hid hx10
    have l10 := WkAt.loadS (show WkAt w10 b0 W H d s o from hx10.heap HWK9.out)
    have n10 := heap_lt (hx10.heap HWK9.out)
    clear hbd hx10
    go_upto_region 15 with (go_at_call 47; refine (paint_sides pd 41 _ _ B _ s _ _ (HBD.out.ext ((Ext.refl _).alloc _)) ((HPL9.out.ext HX10.out).ext ((Ext.refl _).alloc _)) (sideN_in W).2).mono ?_; rintro _ w11 ⟨rfl, hx11⟩)
    have hx11' := HX10.out.trans (((Ext.refl w10).alloc _).trans hx11)
    have hres := hx11'.heap HRES9.out
    have c0 : w11.cell? ⟨b0 + 1, 0, none⟩ = some (.bool false) := cell_of_heap hres rfl
    have f0 : w11.frozen? ⟨b0 + 1, 0, none⟩ = false := free_of_heap hres
    have n11 := heap_lt hres
    have hch1 : Chg [b0 + 1] w11 (w11.setCell ⟨b0 + 1, 0, none⟩ (.bool true)) := (Chg.refl _ _).setCell (by simp) _
    have HM2 := Lib.hid ((HMK.out.ext hx11').chg hch1 (by simp; exact ⟨_, hres, rfl⟩))
    have HR2 := Lib.hid (heap_set (k := 0) (u := .bool true) hres)
    have HX12 := Lib.hid ((HX9.out.trans hx11').chgTrans hch1 (by rw [HB0.out]; simp))
    clear hx11 hx11' hres hch1 HWK9 HRES9 HX9 HX10 HPL9 HMK
    go_wp2_with (first | (go_at_call 45; refine (add_nil _ _).mono ?_; rintro _ _ ⟨rfl, rfl⟩) | (go_at_call 46; refine (len_nil _).mono ?_; rintro _ _ ⟨rfl, rfl⟩) | (go_at_call 43; refine (tiles_nil _).mono ?_; rintro _ _ ⟨rfl, rfl⟩))
    refine retM HM2.out fun W3 ht => ?_
    have hc2 : W3.cell? ⟨b0 + 1, 0, none⟩ = some (.bool true) := cell_of_heap (ht.cells HR2.out) rfl
    exact ⟨.bool true, by simp [results, go_sem, hc2, asAddr, Try.f9], rfl, HX12.out.turned ht (by rw [HB0.out]; exact Nat.le_refl _)⟩
theorem bnone_arg (W : World) (v0 v1 : Value) (h0 : ArgIs Try.prog W 91 v0) (h1 : ArgIs Try.prog W 92 v1) : Calls Try.prog 9 #[v0, v1] W fun e w' => e = .returned (.bool true) ∧ Ext W w' := by
  obtain ⟨W0, H, d, s, o, rfl, _⟩ := wkIn h0
  obtain ⟨L, hL⟩ := sk_arg h1
  exact bnone_walk W0 H d s o v1 L W hL
end Go.Proofs.Ytgdcdkajicgliaa
