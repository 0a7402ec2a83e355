/- The walk of BinsAny. Conditions: each theorem's own premises. -/
import Derived.Test.YtgdcdkajicgliaaPln
import Derived.Test.YtgdcdkajicgliaaBinW
import Derived.Test.YtgdcdkajicgliaaSpu
import Derived.Test.YtgdcdkajicgliaaAlk
import Derived.Deep.RegionHeld3
namespace Go.Proofs.Ytgdcdkajicgliaa
open Go.RowKit
set_option linter.unusedVariables false
set_option maxRecDepth 100000
set_option linter.unusedSimpArgs false

theorem cell_ints {W : World} {o : Value} (h : CellIs Try.prog W (.slice 3) o) : ∃ zs, Ints .i64 W o zs := by
  obtain ⟨css, h1, h2⟩ := h.elems 4 (ls := [.int .i64]) (by kernel_rfl) (by kernel_rfl) (by decide)
  have key : ∀ (css : List (List Value)), (∀ cs ∈ css, Fits (CellIs Try.prog W) [.int .i64] cs) → ∃ zs : List Int, css.flatten = zs.map (Value.int .i64) ∧ zs.length = css.length ∧ ∀ z ∈ zs, (Lit.int .i64 z).wf = true := fun css => by
    induction css with
    | nil => intro _; exact ⟨[], rfl, rfl, by simp⟩
    | cons c css ih =>
      intro hc
      obtain ⟨zs, g1, g2, g3⟩ := ih (fun cs hcs => hc cs (by simp [hcs]))
      obtain ⟨u0, us, rfl, ⟨z, rfl, hz⟩, k1⟩ := (hc c (by simp)).cons_inv
      have := k1.nil_inv
      subst this
      exact ⟨z :: zs, by rw [List.flatten_cons, g1]; rfl, by simp [g2], fun x hx => by
        rcases List.mem_cons.1 hx with rfl | hx
        · exact hz
        · exact g3 x hx⟩
  obtain ⟨zs, g1, g2, g3⟩ := key css h2
  refine ⟨zs, ?_, g3⟩
  rw [g1, ← g2] at h1
  exact h1
theorem wkCell {w : World} {b : Nat} {W H : Int} {d : Bool} {s : St} {o : Value} (h : WkAt w b W H d s o) : w.cell? ⟨b, 41, none⟩ = some o := cell_of_heap h rfl
section
attribute [local go_sem ↓] Ld_St Ld_Wk
attribute [local go_sem] Oper.semAt_some
set_option maxHeartbeats 8000000 in
theorem bany_walk (W H : Int) (d : Bool) (s : St) (o v : Value) (L : List (Sk × Value)) (os : List Int) (w : World) (hL : SksAt w v L) (ho : Ints .i64 w o os) : Calls Try.prog 8 #[.agg (wkC W H d s o).toArray, v] w fun e w' => e = .returned (.bool true) ∧ Ext w w' := by
  have HL := Lib.hid hL
  have HO := Lib.hid ho
  clear hL ho
  go_enter Try.func8, Try.ntmps8
  go_upto_region 1 with fail
  obtain ⟨w0, hw0, hwk, hx0⟩ : ∃ w0, w.alloc (.cells (wkC W H d s o).toArray 91) = w0 ∧ w0.heap[w.heap.size]? = some (.cells (wkC W H d s o).toArray 91 (0, 0)) ∧ Ext w w0 := ⟨_, rfl, heap_alloc_new _ _, (Ext.refl _).alloc _⟩
  rw [hw0]
  obtain ⟨b0, hb0⟩ : ∃ b0, w.heap.size = b0 := ⟨_, rfl⟩
  have HB0 := Lib.hid hb0
  rw [hb0] at hwk
  rw [hb0]
  have HX0 := Lib.hid hx0
  clear hw0 hx0 hb0
  go_upto_region 4 with (first | (go_at_call 39; refine (wakes_any _).mono ?_; rintro _ w1 ⟨rfl, hx1⟩) | (go_at_call 40; refine (few_any v L _ (HL.out.ext (HX0.out.trans hx1))).mono ?_; rintro _ w2 ⟨a1, c1, L1, rfl, hm1, he1, hx2⟩))
  obtain ⟨m1, hmw⟩ : ∃ m1, w1.heap.size = m1 := ⟨_, rfl⟩
  rw [hmw] at hm1
  have hb1 : w.heap.size ≤ m1 := by have := HX0.out.size; have := hx1.size; omega
  have HMW := Lib.hid hb1
  have HM1 := Lib.hid hm1
  have HE1 := Lib.hid he1
  have HWK := Lib.hid ((hx1.trans hx2).heap hwk)
  have HX2 := Lib.hid (HX0.out.trans (hx1.trans hx2))
  have n2 := heap_lt HWK.out
  clear hwk hx1 hx2 hm1 he1 HX0 hmw hb1
  have HK : Hid (∀ w', Ext w2 w' → (@Classical.epsilon _ neV (LdP 91 (.pointer (some ⟨b0, 0, none⟩)))).run Try.prog w' = .ok (.agg (wkC W H d s o).toArray) w') := Lib.hid fun w' x' => WkAt.load (x'.heap HWK.out)
  have X0 := Lib.hid (show Ext w2 w2.drew from (Ext.refl _).drew)
  go_region_held3 (fun w' => (@Classical.epsilon _ neV (LdP 91 (.pointer (some ⟨b0, 0, none⟩)))).run Try.prog w' = .ok (.agg (wkC W H d s o).toArray) w') (first | exact HK.out _ X0.out | exact HK.out _ X3.out | exact HK.out _ X4.out) (first
    | (go_at_call 41; have := X3; refine (planes_any W H d s o w3).mono ?_; rintro _ w4 ⟨Bb, rfl, hq1, hq2, hq3, hq4, hql, hx4⟩; have X4 := Lib.hid (X3.out.trans hx4))
    | (go_at_call 41; refine (planes_any W H d s o w2.drew).mono ?_; rintro _ w3 ⟨Ba, rfl, hp1, hp2, hp3, hp4, hpl, hx3⟩; have X3 := Lib.hid (X0.out.trans hx3)))
  obtain ⟨P, hP⟩ : ∃ P, plZ (sideN W) (sideN H) 1 d d = P := ⟨_, rfl⟩
  rw [hP] at hpl hql
  clear hP
  have HAB : Hid (w.heap.size ≤ b0 ∧ b0 < w2.heap.size ∧ w2.heap.size ≤ Ba.p ∧ w2.heap.size ≤ Ba.c ∧ w2.heap.size ≤ Ba.d ∧ w2.heap.size ≤ Ba.m ∧ Ba.p < w3.heap.size ∧ Ba.c < w3.heap.size ∧ Ba.d < w3.heap.size ∧ Ba.m < w3.heap.size ∧ w3.heap.size ≤ Bb.p ∧ w3.heap.size ≤ Bb.c ∧ w3.heap.size ≤ Bb.d ∧ w3.heap.size ≤ Bb.m ∧ Bb.p < w4.heap.size ∧ Bb.c < w4.heap.size ∧ Bb.d < w4.heap.size ∧ Bb.m < w4.heap.size) := Lib.hid (by
    have h0 : w2.drew.heap.size = w2.heap.size := rfl
    have h1 := HB0.out
    have h2 := heap_lt HWK.out
    exact ⟨by omega, h2, hp1, hp2, hp3, hp4, heap_lt hpl.p, heap_lt hpl.c, heap_lt hpl.d, heap_lt hpl.m, hq1, hq2, hq3, hq4, heap_lt hql.p, heap_lt hql.c, heap_lt hql.d, heap_lt hql.m⟩)
  have HPA := Lib.hid (hpl.ext hx4)
  have HPB := Lib.hid hql
  have HX24 := Lib.hid X4.out
  have HX4 := Lib.hid (HX2.out.trans X4.out)
  have HW4 := Lib.hid (X4.out.heap HWK.out)
  have HM4 := Lib.hid (sks_ext HM1.out X4.out)
  have hok : 1 ≤ P.W ∧ P.W ≤ 64 ∧ 1 ≤ P.H ∧ P.H ≤ 64 := ⟨hql.ok.w1, hql.ok.w2, hql.ok.h1, hql.ok.h2⟩
  have HOK := Lib.hid hok
  clear hp1 hp2 hp3 hp4 hpl hx3 hq1 hq2 hq3 hq4 hql hx4 HK HM1 HWK HX2 X0 X3 X4 hok
  go_upto_region 8 with (first
    | (go_at_call 22; refine (sides_any Ba P _ HPA.out).mono ?_; rintro _ w5 ⟨rfl, hx5⟩)
    | (go_at_call 42; refine (new_any P.W P.H HOK.out.1 HOK.out.2.1 HOK.out.2.2.1 HOK.out.2.2.2 w5).mono ?_; rintro _ w6 ⟨pb, gb, rfl, hg1, hg2, hbt, hgb, hx6⟩))
  have HBN := Lib.hid (fresh_bin hg1 hg2 hbt hgb hx6)
  have HGB : Hid (w4.heap.size ≤ gb ∧ gb < pb) := Lib.hid ⟨by have := hx5.size; omega, hg2⟩
  have hx46 := hx5.trans hx6
  have HPA6 := Lib.hid (HPA.out.ext hx46)
  have HPB6 := Lib.hid (HPB.out.ext hx46)
  have HX6 := Lib.hid (HX4.out.trans hx46)
  have HW6 := Lib.hid (hx46.heap HW4.out)
  have HM6 := Lib.hid (sks_ext HM4.out hx46)
  have n5 := hx5.size
  clear hx5 hx6 hx46 hg1 hg2 hbt hgb HPA HPB HX4 HW4 HM4 HX24
  go_upto_region 10 with (first
    | (go_at_call 40; refine (few_any _ L1 w6 (SksMy.at HM6.out)).mono ?_; rintro _ w7 ⟨a2, c2, L2, rfl, hm2, he2, hx7⟩)
    | (go_at_call 45; refine (add_fresh _ _ pb gb P.W P.H _ L2 w7 (HBN.out.ext hx7) HOK.out.2.1 HOK.out.2.2.2 hm2 (few_facts he2).1 (few_facts he2).2).mono ?_; rintro _ w8 ⟨rfl, T, hb8, ht8, hc8⟩))
  rw [trim_again HE1.out] at he2
  rw [he2] at ht8 hb8
  have hc68 := (hx7.chg [pb, gb]).trans hc8
  have hbp6 := heap_lt HBN.out.b
  have HPA8 := Lib.hid (HPA6.out.chg hc68 (by have := HAB.out; have := HGB.out; have := HX6.out.size; simp; omega) (by have := HAB.out; have := HGB.out; simp; omega) (by have := HAB.out; have := HGB.out; simp; omega) (by have := HAB.out; have := HGB.out; simp; omega))
  have HPB8 := Lib.hid (HPB6.out.chg hc68 (by have := HAB.out; have := HGB.out; simp; omega) (by have := HAB.out; have := HGB.out; simp; omega) (by have := HAB.out; have := HGB.out; simp; omega) (by have := HAB.out; have := HGB.out; simp; omega))
  have HW8 := Lib.hid (hc68.heap HW6.out (by have := HAB.out; have := HGB.out; simp; omega))
  have HM8 := Lib.hid (sks_chg HM6.out hc68 (fun m hm => by
    simp only [List.mem_cons, List.not_mem_nil, or_false] at hm
    rcases hm with rfl | rfl
    · exact ⟨_, _, HBN.out.b, by decide, by decide⟩
    · exact ⟨_, _, HBN.out.r, by decide, by decide⟩))
  have HX8 := Lib.hid (HX6.out.chgTrans hc68 (by have := HAB.out; have := HGB.out; simp; omega))
  have HB8 := Lib.hid hb8
  have HT8 := Lib.hid ht8
  have HTL : Hid (T.length ≤ 16) := Lib.hid (by
    rw [ht8.l]
    exact Nat.mul_le_mul (acr_le HOK.out.2.1) (acr_le HOK.out.2.2.2))
  have HGB8 : Hid (pb < w8.heap.size ∧ gb < w8.heap.size) := Lib.hid ⟨heap_lt hb8.b, heap_lt hb8.r⟩
  have HL1 := Lib.hid (few_facts HE1.out)
  obtain ⟨bse, hbse⟩ : ∃ bse, w5.heap.size = bse := ⟨_, rfl⟩
  rw [hbse] at HB8
  have nb8 := heap_lt HW8.out
  have HK : Hid (∀ w', Ext w8 w' → (@Classical.epsilon _ neV (LdP 42 (.pointer (some ⟨b0, 3, none⟩)))).run Try.prog w' = .ok (.agg s.C.toArray) w' ∧ w'.cell? ⟨b0, 41, none⟩ = some o) := Lib.hid fun w' x' => ⟨WkAt.loadS (x'.heap HW8.out), wkCell (x'.heap HW8.out)⟩
  have X0 := Lib.hid (show Ext w8 w8.drew from (Ext.refl _).drew)
  clear hc68 hbp6 hx7 hc8 hb8 ht8 he2 hm2 HPA6 HPB6 HW6 HM6 HX6 HBN hbse n5 n2
  have hk8 := HK.out w8 (Ext.refl _)
  cases hso : stOk s with
  | false =>
    have HSO := Lib.hid hso
    clear hso
    have HPT : Hid (∀ (u : Value) (zs : List Int) (w9 : World), Ext w8 w9 → Ints .i64 w9 u zs → zs.length = T.length → onceB zs T.length = true → Calls Try.prog 47 #[.pointer (some ⟨pb, 0, none⟩), .pointer (some ⟨Ba.p, 0, none⟩), .agg s.C.toArray, u] w9 fun e w' => e = .returned (.tuple #[.int .i64 0, .int .i64 340]) ∧ Ext w9 w') := Lib.hid (fun u zs w9 x9 hu hzl hzo => bpaint_state bse pb gb T _ Ba P s u zs w9 (HB8.out.ext x9) (HPA8.out.ext x9) hu hzo HSO.out (by have := HTL.out; omega) (by have := HTL.out; omega))
    have HSP : Hid (∀ w', Ext w8 w' → Calls Try.prog 48 #[o, .int .i64 T.length] w' fun e w'' => ∃ u zs, e = .returned u ∧ Ints .i64 w'' u zs ∧ zs.length = T.length ∧ onceB zs T.length = true ∧ (∀ b, u.ownBlock = some b → w'.heap.size ≤ b) ∧ Ext w' w'') := Lib.hid (fun w' x' => spun_any o os T.length w' (HO.out.ext (HX8.out.trans x')) (by have := HTL.out; omega))
    go_region_held3 (fun w' => (@Classical.epsilon _ neV (LdP 42 (.pointer (some ⟨b0, 3, none⟩)))).run Try.prog w' = .ok (.agg s.C.toArray) w' ∧ w'.cell? ⟨b0, 41, none⟩ = some o) (first | exact HK.out _ X0.out | exact HK.out _ X9.out | exact HK.out _ X10.out) (first
      | (go_at_call 43; refine (tiles_any pb P.W P.H T.length _ _ _ w8.drew (HB8.out.ext X0.out).b).mono ?_; rintro _ _ ⟨rfl, rfl⟩)
      | (go_at_call 48; refine (HSP.out w8.drew X0.out).mono ?_; rintro _ w9 ⟨u, zs, rfl, hiu, hzl, hzo, hub, hx9⟩; have X9 := Lib.hid (X0.out.trans hx9))
      | (go_at_call 47; refine (HPT.out u zs w9 X9.out hiu hzl hzo).mono ?_; rintro _ w10 ⟨rfl, hx10⟩; have X10 := Lib.hid (X9.out.trans hx10)))
    all_goals
      have l10 := (HK.out _ X10.out).1
      have n10 : b0 < w10.heap.size := by have := X10.out.size; omega
      clear hiu hzl hzo hub hx9 hx10 hk8 HK
      go_wp2_with (go_at_call 50; refine (whole_bad Bb P s _ w10 HSO.out).mono ?_; rintro _ w11 ⟨rfl, hx11⟩)
      go_ret
      exact ⟨by first | rfl | simp, HX8.out.trans (X10.out.trans hx11)⟩
  | true =>
    have HSO := Lib.hid hso
    clear hso
    obtain ⟨⟨Pf, nf⟩, hF⟩ : ∃ F, (L1.map (·.1)).foldl (stepK s) (P, 0) = F := ⟨_, rfl⟩
    have HPT : Hid (∀ (u : Value) (zs : List Int) (w9 : World), Ext w8 w9 → Ints .i64 w9 u zs → zs.length = T.length → onceB zs T.length = true → (∀ b, u.ownBlock = some b → w8.heap.size ≤ b) → Calls Try.prog 47 #[.pointer (some ⟨pb, 0, none⟩), .pointer (some ⟨Ba.p, 0, none⟩), .agg s.C.toArray, u] w9 fun e w' => e = .returned (.tuple #[.int .i64 nf, .int .i64 0]) ∧ PlAt w' Ba Pf ∧ Chg [pb, gb, Ba.c, Ba.d, Ba.m] w9 w') := Lib.hid (fun u zs w9 x9 hu hzl hzo hub => by
      have hpw : paintK s (skel T) zs (P, 0) = (Pf, nf) := by
        rw [HT8.out.s, paint_whole s P HPA8.out.ok (L1.map (·.1)) zs _ rfl (by rw [← HT8.out.l]; exact hzo)]
        exact hF
      refine (bpaint_ok bse pb gb T _ Ba P s u zs w9 (HB8.out.ext x9) (HPA8.out.ext x9) hu hzo HSO.out (by have := HTL.out; omega) HT8.out.a HT8.out.b (by have := HTL.out; omega) (fun b hb => by
        have h1 := hub b hb
        have h2 := heap_lt HPA8.out.c
        have h3 := heap_lt HPA8.out.d
        have h4 := heap_lt HPA8.out.m
        omega)).mono ?_
      rintro e w' ⟨he, hp, _, hc⟩
      rw [hpw] at he hp
      exact ⟨he, hp, hc⟩)
    have HWH : Hid (∀ (w9 : World), PlAt w9 Bb P → SksMy m1 w9 (.slice a1 L1.length c1) L1 → Calls Try.prog 50 #[.pointer (some ⟨Bb.p, 0, none⟩), .agg s.C.toArray, .slice a1 L1.length c1] w9 fun e w' => e = .returned (.tuple #[.int .i64 nf, .int .i64 0]) ∧ PlAt w' Bb Pf ∧ Chg [Bb.c, Bb.d, Bb.m] w9 w') := Lib.hid (fun w9 hp hm => by
      refine (whole_ok m1 Bb P s _ L1 w9 hp hm HSO.out (by have := HL1.out.1; omega)).mono ?_
      rintro e w' ⟨he, hp, hc⟩
      rw [hF] at he hp
      exact ⟨he, hp, hc⟩)
    have HSP : Hid (∀ w', Ext w8 w' → Calls Try.prog 48 #[o, .int .i64 T.length] w' fun e w'' => ∃ u zs, e = .returned u ∧ Ints .i64 w'' u zs ∧ zs.length = T.length ∧ onceB zs T.length = true ∧ (∀ b, u.ownBlock = some b → w'.heap.size ≤ b) ∧ Ext w' w'') := Lib.hid (fun w' x' => spun_any o os T.length w' (HO.out.ext (HX8.out.trans x')) (by have := HTL.out; omega))
    clear hF
    go_region_held3 (fun w' => (@Classical.epsilon _ neV (LdP 42 (.pointer (some ⟨b0, 3, none⟩)))).run Try.prog w' = .ok (.agg s.C.toArray) w' ∧ w'.cell? ⟨b0, 41, none⟩ = some o) (first | exact HK.out _ X0.out | exact HK.out _ X9.out | exact HK10.out) (first
      | (go_at_call 43; refine (tiles_any pb P.W P.H T.length _ _ _ w8.drew (HB8.out.ext X0.out).b).mono ?_; rintro _ _ ⟨rfl, rfl⟩)
      | (go_at_call 48; refine (HSP.out w8.drew X0.out).mono ?_; rintro _ w9 ⟨u, zs, rfl, hiu, hzl, hzo, hub, hx9⟩; have X9 := Lib.hid (X0.out.trans hx9))
      | (go_at_call 47; refine (HPT.out u zs w9 X9.out hiu hzl hzo hub).mono ?_; rintro _ w10 ⟨rfl, hp10, hc10⟩; have HK10 := Lib.hid (show (@Classical.epsilon _ neV (LdP 42 (.pointer (some ⟨b0, 3, none⟩)))).run Try.prog w10 = .ok (.agg s.C.toArray) w10 ∧ w10.cell? ⟨b0, 41, none⟩ = some o from by
          have hh := hc10.heap (X9.out.heap HW8.out) (by have := HAB.out; have := HGB.out; simp; omega)
          exact ⟨WkAt.loadS hh, wkCell hh⟩)))
    all_goals
      have hx9' := X9.out
      have HP10 := Lib.hid hp10
      have HC10 := Lib.hid hc10
      have HPB10 := Lib.hid ((HPB8.out.ext X9.out).chg hc10 (by have := HAB.out; have := HGB.out; simp; omega) (by have := HAB.out; have := HGB.out; simp; omega) (by have := HAB.out; have := HGB.out; simp; omega) (by have := HAB.out; have := HGB.out; simp; omega))
      have HM10 := Lib.hid (sks_chg (sks_ext HM8.out X9.out) hc10 (fun m hm => by
        have hbb := HB8.out.ext X9.out
        have hpp := HPA8.out.ext X9.out
        simp only [List.mem_cons, List.not_mem_nil, or_false] at hm
        rcases hm with rfl | rfl | rfl | rfl | rfl
        · exact ⟨_, _, hbb.b, by decide, by decide⟩
        · exact ⟨_, _, hbb.r, by decide, by decide⟩
        · exact ⟨_, _, hpp.c, by decide, by decide⟩
        · exact ⟨_, _, hpp.d, by decide, by decide⟩
        · exact ⟨_, _, hpp.m, by decide, by decide⟩))
      have HX10 := Lib.hid ((HX8.out.trans X9.out).chgTrans hc10 (by have := HAB.out; have := HGB.out; have := HX8.out.size; have := HMW.out; simp; omega))
      have l10 := HK10.out.1
      have n10 : b0 < w10.heap.size := by have := hc10.size; have := X9.out.size; omega
      clear hp10 hc10 hiu hzl hzo hub hx9 hx9' hk8 HK HK10
      go_wp2_with (first
        | (go_at_call 50; refine (HWH.out w10 HPB10.out HM10.out).mono ?_; rintro _ w11 ⟨rfl, hpb11, hc11⟩)
        | (go_at_call 49; refine (alike_eq Ba Bb Pf w11 (HP10.out.chg hc11 (by have := HAB.out; simp; omega) (by have := HAB.out; simp; omega) (by have := HAB.out; simp; omega) (by have := HAB.out; simp; omega)) hpb11).mono ?_; rintro _ w12 ⟨rfl, hx12⟩))
      go_ret
      exact ⟨by first | rfl | simp, (HX10.out.chgTrans hc11 (by have := HAB.out; simp; omega)).trans hx12⟩
theorem bany_arg (W : World) (v0 v1 : Value) (h0 : ArgIs Try.prog W 91 v0) (h1 : ArgIs Try.prog W 92 v1) : Calls Try.prog 8 #[v0, v1] W fun e w' => e = .returned (.bool true) ∧ Ext W w' := by
  obtain ⟨W0, H, d, s, o, rfl, ho⟩ := wkIn h0
  obtain ⟨L, hL⟩ := sk_arg h1
  obtain ⟨os, hos⟩ := cell_ints ho
  exact bany_walk W0 H d s o v1 L os W hL hos
end
end Go.Proofs.Ytgdcdkajicgliaa
