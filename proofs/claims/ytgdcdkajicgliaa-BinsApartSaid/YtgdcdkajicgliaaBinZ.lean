/- The walk of BinsApart. Conditions: each theorem's own premises. -/
import Derived.Test.YtgdcdkajicgliaaBinY
import Derived.Test.YtgdcdkajicgliaaApa
namespace Go.Proofs.Ytgdcdkajicgliaa
open Go.RowKit
set_option linter.unusedVariables false
set_option maxRecDepth 100000
set_option linter.unusedSimpArgs false

section
attribute [local go_sem ↓] Ld_St Ld_Wk Ld_Sk St_Sk Ld_Ce St_Ce eqC
attribute [local go_sem] Oper.semAt_some
set_option maxHeartbeats 8000000 in
theorem bapart_walk (W H : Int) (d : Bool) (s : St) (o v : Value) (L : List (Sk × Value)) (os : List Int) (tile : Int) (w : World) (hL : SksAt w v L) (ho : Ints .i64 w o os) : Calls Try.prog 7 #[.agg (wkC W H d s o).toArray, v, .int .i64 tile] w fun e w' => e = .returned (.bool true) ∧ Ext w w' := by
  obtain ⟨i0, hi, hz0, hz1, hz2⟩ := info_parts info_sk3
  have HL := Lib.hid hL
  have HO := Lib.hid ho
  clear hL ho
  go_enter Try.func7, Try.ntmps7
  go_upto_region 1 with fail
  obtain ⟨w0, hw0, hwk, hx0⟩ : ∃ w0, w.alloc (.cells (wkC W H d s o).toArray 91) = w0 ∧ w0.heap[w.heap.size]? = some (.cells (wkC W H d s o).toArray 91 (0, 0)) ∧ Ext w w0 := ⟨_, rfl, heap_alloc_new _ _, (Ext.refl _).alloc _⟩
  rw [hw0]
  obtain ⟨b0, hb0⟩ : ∃ b0, w.heap.size = b0 := ⟨_, rfl⟩
  have HB0 := Lib.hid hb0
  rw [hb0] at hwk
  rw [hb0]
  have HX0 := Lib.hid hx0
  clear hw0 hx0 hb0
  go_upto_region 4 with (first | (go_at_call 39; refine (wakes_any _).mono ?_; rintro _ w1 ⟨rfl, hx1⟩) | (go_at_call 40; refine (few_any v L _ (HL.out.ext (HX0.out.trans hx1))).mono ?_; rintro _ w2 ⟨a1, c1, L1, rfl, hm1, he1, hx2⟩))
  obtain ⟨m1, hmw⟩ : ∃ m1, w1.heap.size = m1 := ⟨_, rfl⟩
  rw [hmw] at hm1
  have hb1 : w.heap.size ≤ m1 ∧ m1 ≤ w2.heap.size := by have := HX0.out.size; have := hx1.size; have := hx2.size; omega
  have HMW := Lib.hid hb1
  have HM1 := Lib.hid hm1
  have HE1 := Lib.hid he1
  have HWK := Lib.hid ((hx1.trans hx2).heap hwk)
  have HX2 := Lib.hid (HX0.out.trans (hx1.trans hx2))
  have l2 := WkAt.load HWK.out
  have n2 := heap_lt HWK.out
  clear hwk hx1 hx2 hm1 he1 HX0 hmw hb1
  go_upto_region 7 with (go_at_call 41; refine (planes_any W H d s o w2).mono ?_; rintro _ w4 ⟨Ba, rfl, hp1, hp2, hp3, hp4, hpl, hx4⟩)
  obtain ⟨P, hP⟩ : ∃ P, plZ (sideN W) (sideN H) 1 d d = P := ⟨_, rfl⟩
  rw [hP] at hpl
  clear hP
  have HAB : Hid (w.heap.size ≤ b0 ∧ b0 < w2.heap.size ∧ w2.heap.size ≤ Ba.p ∧ w2.heap.size ≤ Ba.c ∧ w2.heap.size ≤ Ba.d ∧ w2.heap.size ≤ Ba.m ∧ Ba.p < w4.heap.size ∧ Ba.c < w4.heap.size ∧ Ba.d < w4.heap.size ∧ Ba.m < w4.heap.size) := Lib.hid ⟨by have := HB0.out; omega, heap_lt HWK.out, hp1, hp2, hp3, hp4, heap_lt hpl.p, heap_lt hpl.c, heap_lt hpl.d, heap_lt hpl.m⟩
  have HPA := Lib.hid hpl
  have HX4 := Lib.hid (HX2.out.trans hx4)
  have HW4 := Lib.hid (hx4.heap HWK.out)
  have HM4 := Lib.hid (sks_ext HM1.out hx4)
  have hok : 1 ≤ P.W ∧ P.W ≤ 64 ∧ 1 ≤ P.H ∧ P.H ≤ 64 := ⟨hpl.ok.w1, hpl.ok.w2, hpl.ok.h1, hpl.ok.h2⟩
  have HOK := Lib.hid hok
  clear hp1 hp2 hp3 hp4 hpl hx4 HM1 HWK HX2 hok l2 n2
  go_upto_region 10 with (first
    | (go_at_call 22; refine (sides_any Ba P _ HPA.out).mono ?_; rintro _ w5 ⟨rfl, hx5⟩)
    | (go_at_call 42; refine (new_any P.W P.H HOK.out.1 HOK.out.2.1 HOK.out.2.2.1 HOK.out.2.2.2 w5).mono ?_; rintro _ w6 ⟨pb, gb, rfl, hg1, hg2, hbt, hgb, hx6⟩))
  have HBN := Lib.hid (fresh_bin hg1 hg2 hbt hgb hx6)
  have HBT := Lib.hid hbt
  have HGB : Hid (w4.heap.size ≤ gb ∧ gb < pb ∧ pb < w6.heap.size) := Lib.hid ⟨by have := hx5.size; omega, hg2, heap_lt hbt⟩
  obtain ⟨bse, hbse⟩ : ∃ bse, w5.heap.size = bse := ⟨_, rfl⟩
  rw [hbse] at HBN
  have hx46 := hx5.trans hx6
  have HPA6 := Lib.hid (HPA.out.ext hx46)
  have HX6 := Lib.hid (HX4.out.trans hx46)
  have HW6 := Lib.hid (hx46.heap HW4.out)
  have HM6 := Lib.hid (sks_ext HM4.out hx46)
  have HS6 := Lib.hid hx46.size
  clear hx5 hx6 hx46 hg1 hg2 hbt hgb HPA HX4 HW4 HM4 hbse
  obtain ⟨NT, hNT⟩ : ∃ NT, acr P.W * acr P.H = NT := ⟨_, rfl⟩
  have HNT := Lib.hid hNT
  rw [hNT] at HBT
  have hn1 : (NT : Int) ≤ 16 := by
    have := Nat.mul_le_mul (acr_le HOK.out.2.1) (acr_le HOK.out.2.2.2)
    omega
  have hn0 : (0 : Int) < (NT : Int) := by
    have h1 : 0 < acr P.W := by have := HOK.out.1; unfold acr; omega
    have h2 : 0 < acr P.H := by have := HOK.out.2.2.1; unfold acr; omega
    have := Nat.mul_pos h1 h2
    omega
  obtain ⟨j, hj, hje⟩ := rem_ok tile NT (by omega) (by omega)
  have HJ := Lib.hid hj
  clear hNT hj
  go_upto_region 11 with (go_at_call 43; refine (tiles_any pb P.W P.H NT _ _ _ w6 HBT.out).mono ?_; rintro _ _ ⟨rfl, rfl⟩)
  rw [hje]
  have HWL : Hid (w6.heap.size = w6.heap.size ∧ m1 ≤ w6.heap.size) := Lib.hid ⟨rfl, by have := HMW.out; have := HAB.out; have := HS6.out; omega⟩
  have HMS := Lib.hid (SksMy.at HM6.out)
  have hcm : (L1.length : Int) ≤ 1000 := by have := (few_facts HE1.out).1; omega
  go_wp2_with fail
  go_loopw [10, 55] (fun u i wr => ∃ (k : Nat) (Lo : List (Sk × Value)), k ≤ L1.length ∧ i = .int .i64 k ∧ Hid (GInv P.W P.H j L1 w6 wr k u Lo)) (fun _ i _ => L1.length - (intOf i).toNat)
  case atStart => exact ⟨0, [], Nat.zero_le _, rfl, Lib.hid ⟨rfl, World.ownsRow_nil _ _ _ _, Ext.refl _⟩⟩
  case round =>
    rename World => wr
    obtain ⟨k, Lo, hk, rfl, HI⟩ := hrel
    obtain ⟨ua, uc, rfl⟩ := ownsB_slice HI.out.o
    by_cases hlt : k < L1.length
    · have hki : (k : Int) < (L1.length : Int) := by omega
      obtain ⟨q, hq⟩ : ∃ q, L1[k]? = some q := ⟨_, List.getElem?_eq_getElem hlt⟩
      have HLR := Lib.hid (HMS.out.ext HI.out.x)
      obtain ⟨b, off, rfl, _, _⟩ := HLR.out.1.pos (by omega)
      have hld := sk_get HLR.out hq
      obtain ⟨va, vc, he⟩ := sk_slice (HLR.out.2 q (List.mem_of_getElem? hq))
      obtain ⟨q, vv⟩ := q
      simp only at he
      subst he
      obtain ⟨w7, hst7, h7, hx7⟩ := newStroke wr (q, .slice va q.vars.length vc) (by cases va <;> rfl)
      have HX7 := Lib.hid hx7
      have HQ := Lib.hid hq
      have e0 : w7.cell? ⟨wr.heap.size, 0, none⟩ = some (.int .i64 q.x) := cell_of_heap h7 rfl
      have e1 : w7.cell? ⟨wr.heap.size, 1, none⟩ = some (.int .i64 q.y) := cell_of_heap h7 rfl
      have n7 := heap_lt h7
      have H7 := Lib.hid h7
      have HTL := Lib.hid (tile_any pb P.W P.H _ _ q.x q.y w7 (HBT.out.ext (HI.out.x.trans hx7)) HOK.out.2.1 HOK.out.2.2.2)
      clear h7 hx7 hq
      cases hin : inB P.W P.H q.x q.y
      · rw [hin] at HTL
        have HTL : Hid (Calls Try.prog 44 #[.pointer (some ⟨pb, 0, none⟩), .int .i64 q.x, .int .i64 q.y] w7 fun e w' => e = .returned (.tuple #[.int .i64 0, .int .i64 2]) ∧ w7 = w') := HTL
        have HN := Lib.hid (inT_no (t := (j : Int)) hin)
        clear hin
        go_wp2_with (go_at_call 44; refine HTL.out.mono ?_; rintro _ _ ⟨rfl, rfl⟩)
        go_roundw
        case rel => exact ⟨k + 1, Lo, by omega, by go_num, Lib.hid (HI.out.skip HX7.out HQ.out HN.out)⟩
        case measure => simp [intOf]; omega
      · have ht0 := (tile_lt hin HOK.out.2.1).1
        rw [hin] at HTL
        obtain ⟨T, hT⟩ : ∃ T : Nat, tlV P.W q.x q.y = T := ⟨(tlV P.W q.x q.y).toNat, by omega⟩
        rw [hT] at HTL
        have HTL : Hid (Calls Try.prog 44 #[.pointer (some ⟨pb, 0, none⟩), .int .i64 q.x, .int .i64 q.y] w7 fun e w' => e = .returned (.tuple #[.int .i64 T, .int .i64 0]) ∧ w7 = w') := HTL
        clear ht0
        by_cases hTt : T = j
        · subst hTt
          have HN := Lib.hid (inT_yes (t := (T : Int)) hin hT)
          clear hin hT
          have hl7 : (@Classical.epsilon _ neF (LdF 99 (.pointer (some ⟨wr.heap.size, 0, none⟩)))).run Try.prog w7 = .ok (.agg #[.int .i64 q.x, .int .i64 q.y, .int .i32 q.z, .int .i32 q.iw, .bool q.front, .int .i32 q.pt.a, .int .i32 q.pt.b, .int .i32 q.pt.c, .int .i32 q.pt.d, .slice va q.vars.length vc, .int .i32 q.col.a, .int .i32 q.col.b, .int .i32 q.col.c, .int .i32 q.col.d]) w7 := sk_loadB H7.out
          have HO7 := Lib.hid (owns_ext HI.out.o HX7.out)
          have HO8 := Lib.hid (owns_ext HO7.out ((Ext.refl _).alloc (.cells #[.int .i64 q.x, .int .i64 q.y, .int .i32 q.z, .int .i32 q.iw, .bool q.front, .int .i32 q.pt.a, .int .i32 q.pt.b, .int .i32 q.pt.c, .int .i32 q.pt.d, .slice va q.vars.length vc, .int .i32 q.col.a, .int .i32 q.col.b, .int .i32 q.col.c, .int .i32 q.col.d] 99)))
          have hlo := HI.out.le
          have hsz := (HI.out.x.trans HX7.out).size
          go_wp2_with (first
            | (go_at_call 44; refine HTL.out.mono ?_; rintro _ _ ⟨rfl, rfl⟩)
            | (at_builtin; refine wpList_append_own _ rfl _ _ 92 rfl w6.heap.size 99 i0 (.agg #[.int .i64 0, .int .i64 0, .int .i32 0, .int .i32 0, .bool false, .int .i32 0, .int .i32 0, .int .i32 0, .int .i32 0, .slice none 0 0, .int .i32 0, .int .i32 0, .int .i32 0, .int .i32 0]) 14 88 Try.underlying92 hi hz0 hz1 hz2 rfl (by decide) _ _ _ rfl HO8.out ⟨w7.heap.size, 0, none⟩ 1 1 (skC (q, .slice va q.vars.length vc)) rfl rfl (World.news_of_block (heap_alloc_new _ _)) (skc_one _ _ _ _) ?c3 ?c4 ?c5 ?_))
          case c3 => unfold maxLen; omega
          case c4 => omega
          case c5 => simp; omega
          intro v9 w9 hown9 hgrow9 _
          obtain ⟨a9, c9, rfl⟩ := ownsB_slice hown9
          have HG9 := Lib.hid (HI.out.put (HX7.out.alloc _) HQ.out HN.out hown9 hgrow9)
          clear hown9 hgrow9
          go_wp2_with fail
          go_roundw
          case rel => exact ⟨k + 1, _, by omega, by go_num, HG9⟩
          case measure => simp [intOf]; omega
        · have HN : Hid (inT P.W P.H j q = false) := Lib.hid (inT_ne (fun e => hTt (by omega)))
          have hTi : ¬ (T : Int) = (j : Int) := by omega
          clear hin hT
          go_wp2_with (go_at_call 44; refine HTL.out.mono ?_; rintro _ _ ⟨rfl, rfl⟩)
          go_roundw
          case rel => exact ⟨k + 1, Lo, by omega, by go_num, Lib.hid (HI.out.skip HX7.out HQ.out HN.out)⟩
          case measure => simp [intOf]; omega
    · obtain rfl : k = L1.length := by omega
      have hlo := HI.out.l
      rw [List.take_length] at hlo
      have HLO := Lib.hid hlo
      have HIN : Hid (∀ q ∈ Lo, inT P.W P.H j q.1 = true) := Lib.hid (fun q hq => by rw [HLO.out] at hq; exact (List.mem_filter.1 hq).2)
      have HLF : Hid (Lo.length ≤ 200 ∧ ∀ q ∈ Lo, q.1.vars.length ≤ 3) := Lib.hid ⟨by have := HI.out.le; have := (few_facts HE1.out).1; omega, fun q hq => by rw [HLO.out] at hq; exact (few_facts HE1.out).2 q (List.mem_filter.1 hq).1⟩
      have HMO : Hid (SksMy m1 wr (.slice ua Lo.length uc) Lo) := Lib.hid ⟨owns_mono HI.out.o HWL.out.2, fun q hq => owns_ext (HM6.out.2 q (by rw [HLO.out] at hq; exact (List.mem_filter.1 hq).1)) HI.out.x⟩
      have HXR := Lib.hid HI.out.x
      have hloi : (Lo.length : Int) ≤ 200 := by have := HLF.out.1; omega
      clear hlo
      have HAE := Lib.hid (fun q hq => HIN.out q hq)
      have hce : cntS P.W P.H (Lo.map (·.1)) = Lo.length := by
        rw [cntS_all P.W P.H j _ (fun q hq => by obtain ⟨r, hr, rfl⟩ := List.mem_map.1 hq; exact HIN.out r hr), List.length_map]
      have HCE := Lib.hid hce
      clear hce
      go_upto_region 20 with (go_at_call 18; refine (copyp_any Ba P _ (HPA6.out.ext HXR.out)).mono ?_; rintro _ w7 ⟨Bb, rfl, hq1, hq2, hq3, hq4, hql, hx7⟩)
      have HPB7 := Lib.hid hql
      have HX67 := Lib.hid (HXR.out.trans hx7)
      have HPA7 := Lib.hid (HPA6.out.ext HX67.out)
      have HBB : Hid (w6.heap.size ≤ Bb.p ∧ w6.heap.size ≤ Bb.c ∧ w6.heap.size ≤ Bb.d ∧ w6.heap.size ≤ Bb.m) := Lib.hid (by have := HXR.out.size; omega)
      have HM7 := Lib.hid (sks_ext HMO.out hx7)
      clear hq1 hq2 hq3 hq4 hql hx7
      go_upto_region 22 with (first
        | (go_at_call 45; refine (add_fresh _ _ pb gb P.W P.H _ Lo w7 (HBN.out.ext HX67.out) HOK.out.2.1 HOK.out.2.2.2 HM7.out HLF.out.1 HLF.out.2).mono ?_; rintro _ w8 ⟨rfl, T, hb8, ht8, hc8⟩; rw [HCE.out] at hb8)
        | (go_at_call 46; refine (len_any pb P.W P.H _ _ w8 hb8.b).mono ?_; rintro _ _ ⟨rfl, rfl⟩))
      have HGE : Hid (w.heap.size ≤ Ba.p ∧ w.heap.size ≤ Ba.c ∧ w.heap.size ≤ Ba.d ∧ w.heap.size ≤ Ba.m ∧ w.heap.size ≤ gb ∧ w.heap.size ≤ pb ∧ Ba.p < gb ∧ Ba.c < gb ∧ Ba.d < gb ∧ Ba.m < gb ∧ gb < pb ∧ pb < w6.heap.size ∧ b0 < Ba.p ∧ b0 < Ba.c ∧ b0 < Ba.d ∧ b0 < Ba.m ∧ w.heap.size ≤ w6.heap.size) := Lib.hid (by
        have h1 := HAB.out
        have h2 := HGB.out
        have h3 := HX6.out.size
        omega)
      have HPA8 := Lib.hid (HPA7.out.chg hc8 (by have := HGE.out; simp; omega) (by have := HGE.out; simp; omega) (by have := HGE.out; simp; omega) (by have := HGE.out; simp; omega))
      have HPB8 := Lib.hid (HPB7.out.chg hc8 (by have := HGE.out; have := HBB.out; simp; omega) (by have := HGE.out; have := HBB.out; simp; omega) (by have := HGE.out; have := HBB.out; simp; omega) (by have := HGE.out; have := HBB.out; simp; omega))
      have HW8 := Lib.hid (hc8.heap (HX67.out.heap HW6.out) (by have := HGE.out; simp; omega))
      have HX8 := Lib.hid ((HX6.out.trans HX67.out).chgTrans hc8 (by have := HGE.out; simp; omega))
      have HB8 := Lib.hid hb8
      have HT8 := Lib.hid ht8
      have HTL : Hid (T.length ≤ 16) := Lib.hid (by
        rw [ht8.l]
        exact Nat.mul_le_mul (acr_le HOK.out.2.1) (acr_le HOK.out.2.2.2))
      have nb8 := heap_lt HW8.out
      have HK : Hid (∀ w', Ext w8 w' → (@Classical.epsilon _ neV (LdP 42 (.pointer (some ⟨b0, 3, none⟩)))).run Try.prog w' = .ok (.agg s.C.toArray) w' ∧ w'.cell? ⟨b0, 41, none⟩ = some o) := Lib.hid fun w' x' => ⟨WkAt.loadS (x'.heap HW8.out), wkCell (x'.heap HW8.out)⟩
      have X0 := Lib.hid (show Ext w8 w8.drew from (Ext.refl _).drew)
      clear hb8 ht8 hc8 HPA6 HPB7 HPA7 HW6 HM6 HBN HI HM7 HMO HMS HBT
      have hk8 := HK.out w8 (Ext.refl _)
      cases hso : stOk s with
      | false =>
        have HSO := Lib.hid hso
        clear hso
        have HPT : Hid (∀ (u : Value) (zs : List Int) (w9 : World), Ext w8 w9 → Ints .i64 w9 u zs → zs.length = T.length → onceB zs T.length = true → Calls Try.prog 47 #[.pointer (some ⟨pb, 0, none⟩), .pointer (some ⟨Ba.p, 0, none⟩), .agg s.C.toArray, u] w9 fun e w' => e = .returned (.tuple #[.int .i64 0, .int .i64 340]) ∧ Ext w9 w') := Lib.hid (fun u zs w9 x9 hu hzl hzo => bpaint_state bse pb gb T _ Ba P s u zs w9 (HB8.out.ext x9) (HPA8.out.ext x9) hu hzo HSO.out (by have := HTL.out; omega) (by have := HTL.out; omega))
        have HSP : Hid (∀ w', Ext w8 w' → Calls Try.prog 48 #[o, .int .i64 T.length] w' fun e w'' => ∃ u zs, e = .returned u ∧ Ints .i64 w'' u zs ∧ zs.length = T.length ∧ onceB zs T.length = true ∧ (∀ b, u.ownBlock = some b → w'.heap.size ≤ b) ∧ Ext w' w'') := Lib.hid (fun w' x' => spun_any o os T.length w' (HO.out.ext (HX8.out.trans x')) (by have := HTL.out; omega))
        go_region_held3 (fun w' => (@Classical.epsilon _ neV (LdP 42 (.pointer (some ⟨b0, 3, none⟩)))).run Try.prog w' = .ok (.agg s.C.toArray) w' ∧ w'.cell? ⟨b0, 41, none⟩ = some o) (first | exact HK.out _ X0.out | exact HK.out _ X9.out | exact HK.out _ X10.out) (first
          | (go_at_call 43; refine (tiles_any pb P.W P.H T.length _ _ _ w8.drew (HB8.out.ext X0.out).b).mono ?_; rintro _ _ ⟨rfl, rfl⟩)
          | (go_at_call 48; refine (HSP.out w8.drew X0.out).mono ?_; rintro _ w9 ⟨u, zs, rfl, hiu, hzl, hzo, hub, hx9⟩; have X9 := Lib.hid (X0.out.trans hx9))
          | (go_at_call 47; refine (HPT.out u zs w9 X9.out hiu hzl hzo).mono ?_; rintro _ w10 ⟨rfl, hx10⟩; have X10 := Lib.hid (X9.out.trans hx10)))
        all_goals
          clear hiu hzl hzo hub hx9 hx10 hk8 HK
          go_wp2_with (go_at_call 49; refine (alike_eq Ba Bb P w10 (HPA8.out.ext X10.out) (HPB8.out.ext X10.out)).mono ?_; rintro _ w11 ⟨rfl, hx11⟩)
          go_ret
          exact ⟨by first | rfl | simp, HX8.out.trans (X10.out.trans hx11)⟩
      | true =>
        have HSO := Lib.hid hso
        clear hso
        obtain ⟨⟨Pf, nf⟩, hF⟩ : ∃ F, (Lo.map (·.1)).foldl (stepK s) (P, 0) = F := ⟨_, rfl⟩
        have hdim := foldK_dim s (Lo.map (·.1)) (P, 0)
        rw [hF] at hdim
        have HDM := Lib.hid hdim
        have HOT : Hid (∀ x y : Nat, x < P.W → y < P.H → tlV P.W x y ≠ j → cellV Pf (y * P.W + x) = cellV P (y * P.W + x)) := Lib.hid (fun x y hx hy ht => by
          have h := cells_other s j P.W P.H (Lo.map (·.1)) (P, 0) HPA8.out.ok rfl rfl (fun q hq => by obtain ⟨r, hr, rfl⟩ := List.mem_map.1 hq; exact HIN.out r hr) x y hx hy ht
          rw [hF] at h
          exact h)
        have HPT : Hid (∀ (u : Value) (zs : List Int) (w9 : World), Ext w8 w9 → Ints .i64 w9 u zs → zs.length = T.length → onceB zs T.length = true → (∀ b, u.ownBlock = some b → w8.heap.size ≤ b) → Calls Try.prog 47 #[.pointer (some ⟨pb, 0, none⟩), .pointer (some ⟨Ba.p, 0, none⟩), .agg s.C.toArray, u] w9 fun e w' => e = .returned (.tuple #[.int .i64 nf, .int .i64 0]) ∧ PlAt w' Ba Pf ∧ BinAt bse w' pb gb P.W P.H (T.map fun _ => (.slice none 0 0, [])) 0 ∧ Chg [pb, gb, Ba.c, Ba.d, Ba.m] w9 w') := Lib.hid (fun u zs w9 x9 hu hzl hzo hub => by
          have hpw : paintK s (skel T) zs (P, 0) = (Pf, nf) := by
            rw [HT8.out.s, paint_whole s P HPA8.out.ok (Lo.map (·.1)) zs _ rfl (by rw [← HT8.out.l]; exact hzo)]
            exact hF
          refine (bpaint_ok bse pb gb T _ Ba P s u zs w9 (HB8.out.ext x9) (HPA8.out.ext x9) hu hzo HSO.out (by have := HTL.out; omega) HT8.out.a HT8.out.b (by have := HTL.out; omega) (fun b hb => by
            have h1 := hub b hb
            have h2 := heap_lt HPA8.out.c
            have h3 := heap_lt HPA8.out.d
            have h4 := heap_lt HPA8.out.m
            omega)).mono ?_
          rintro e w' ⟨he, hp, hbb, hc⟩
          rw [hpw] at he hp
          exact ⟨he, hp, hbb, hc⟩)
        have HSP : Hid (∀ w', Ext w8 w' → Calls Try.prog 48 #[o, .int .i64 T.length] w' fun e w'' => ∃ u zs, e = .returned u ∧ Ints .i64 w'' u zs ∧ zs.length = T.length ∧ onceB zs T.length = true ∧ (∀ b, u.ownBlock = some b → w'.heap.size ≤ b) ∧ Ext w' w'') := Lib.hid (fun w' x' => spun_any o os T.length w' (HO.out.ext (HX8.out.trans x')) (by have := HTL.out; omega))
        clear hF hdim
        go_region_held3 (fun w' => (@Classical.epsilon _ neV (LdP 42 (.pointer (some ⟨b0, 3, none⟩)))).run Try.prog w' = .ok (.agg s.C.toArray) w' ∧ w'.cell? ⟨b0, 41, none⟩ = some o) (first | exact HK.out _ X0.out | exact HK.out _ X9.out | exact HK10.out) (first
          | (go_at_call 43; refine (tiles_any pb P.W P.H T.length _ _ _ w8.drew (HB8.out.ext X0.out).b).mono ?_; rintro _ _ ⟨rfl, rfl⟩)
          | (go_at_call 48; refine (HSP.out w8.drew X0.out).mono ?_; rintro _ w9 ⟨u, zs, rfl, hiu, hzl, hzo, hub, hx9⟩; have X9 := Lib.hid (X0.out.trans hx9))
          | (go_at_call 47; refine (HPT.out u zs w9 X9.out hiu hzl hzo hub).mono ?_; rintro _ w10 ⟨rfl, hp10, hb10, hc10⟩; have HK10 := Lib.hid (show (@Classical.epsilon _ neV (LdP 42 (.pointer (some ⟨b0, 3, none⟩)))).run Try.prog w10 = .ok (.agg s.C.toArray) w10 ∧ w10.cell? ⟨b0, 41, none⟩ = some o from by
              have hh := hc10.heap (X9.out.heap HW8.out) (by have := HGE.out; simp; omega)
              exact ⟨WkAt.loadS hh, wkCell hh⟩)))
        all_goals
          have HP10 := Lib.hid hp10
          have HB10 : Hid (BAt w10 pb P.W P.H (.slice (some ⟨gb, 0, none⟩) (T.map fun _ => ((.slice none 0 0, []) : Tl)).length (T.map fun _ => ((.slice none 0 0, []) : Tl)).length) 0) := Lib.hid hb10.b
          have HPB10 := Lib.hid ((HPB8.out.ext X9.out).chg hc10 (by have := HGE.out; have := HBB.out; simp; omega) (by have := HGE.out; have := HBB.out; simp; omega) (by have := HGE.out; have := HBB.out; simp; omega) (by have := HGE.out; have := HBB.out; simp; omega))
          have HX10 := Lib.hid ((HX8.out.trans X9.out).chgTrans hc10 (by have := HGE.out; simp; omega))
          clear hp10 hb10 hc10 hiu hzl hzo hub hx9 hk8 HK HK10
          have hw2 : (P.W : Int) ≤ 64 := by have := HOK.out; omega
          have hh2 : (P.H : Int) ≤ 64 := by have := HOK.out; omega
          go_upto_region 26 with (go_at_call 22; refine (sides_any Ba Pf _ HP10.out).mono ?_; rintro _ w11 ⟨rfl, hx11⟩)
          rw [HDM.out.1, HDM.out.2]
          have HX11 := Lib.hid hx11
          clear hx11
          go_wp2_with fail
          go_loopw [123] (fun i wr => ∃ k : Nat, k ≤ P.H ∧ i = .int .i64 k ∧ Hid (Ext w10 wr)) (fun i _ => P.H - (intOf i).toNat)
          case atStart => exact ⟨0, Nat.zero_le _, rfl, HX11⟩
          case round =>
            rename World => wq1
            obtain ⟨y, hy, rfl, HXR1⟩ := hrel
            by_cases hlty : y < P.H
            · have hyi : (y : Int) < (P.H : Int) := by omega
              go_wp2_with fail
              go_loopw [127] (fun i wq => ∃ k : Nat, k ≤ P.W ∧ i = .int .i64 k ∧ Hid (Ext w10 wq)) (fun i _ => P.W - (intOf i).toNat)
              case atStart => exact ⟨0, Nat.zero_le _, rfl, HXR1⟩
              case round =>
                rename World => wq
                obtain ⟨x, hx, rfl, HXQ⟩ := hrel
                by_cases hltx : x < P.W
                · have hxi : (x : Int) < (P.W : Int) := by omega
                  obtain ⟨c, hc⟩ : ∃ c, cellV Pf (y * P.W + x) = c := ⟨_, rfl⟩
                  obtain ⟨c', hc'⟩ : ∃ c', cellV P (y * P.W + x) = c' := ⟨_, rfl⟩
                  obtain ⟨t, ht⟩ : ∃ t : Nat, tlV P.W x y = t := ⟨(tlV P.W x y).toNat, by have := (tile_in P.W x y (by omega) (by omega) (by omega) (by omega) HOK.out.2.1).1; omega⟩
                  have HCC : Hid (t ≠ j → c = c') := Lib.hid (fun hne => by rw [← hc, ← hc']; exact HOT.out x y hltx hlty (by rw [ht]; omega))
                  have HCA : Hid (∀ w', Ext w10 w' → Calls Try.prog 16 #[.pointer (some ⟨Ba.p, 0, none⟩), .int .i64 x, .int .i64 y] w' fun e w'' => e = .returned (.tuple #[.agg c.C.toArray, .int .i64 0]) ∧ Ext w' w'') := Lib.hid (fun w' x' => by
                    have h := cellp_in Ba Pf x y (by rw [HDM.out.1]; exact hltx) (by rw [HDM.out.2]; exact hlty) w' (HP10.out.ext x')
                    rw [HDM.out.1, hc] at h
                    exact h)
                  have HCB : Hid (∀ w', Ext w10 w' → Calls Try.prog 16 #[.pointer (some ⟨Bb.p, 0, none⟩), .int .i64 x, .int .i64 y] w' fun e w'' => e = .returned (.tuple #[.agg c'.C.toArray, .int .i64 0]) ∧ Ext w' w'') := Lib.hid (fun w' x' => by rw [← hc']; exact cellp_in Bb P x y hltx hlty w' (HPB10.out.ext x'))
                  have HTI : Hid (∀ w', Ext w10 w' → Calls Try.prog 44 #[.pointer (some ⟨pb, 0, none⟩), .int .i64 x, .int .i64 y] w' fun e w'' => e = .returned (.tuple #[.int .i64 t, .int .i64 0]) ∧ w' = w'') := Lib.hid (fun w' x' => by
                    have h := tile_any pb P.W P.H _ _ x y w' (HB10.out.ext x') HOK.out.2.1 HOK.out.2.2.2
                    have hin : inB P.W P.H x y = true := by unfold inB; simp; omega
                    rw [hin, ht] at h
                    exact h)
                  clear hc hc' ht
                  by_cases htj : t = j
                  · subst htj
                    go_wp2_with (first
                      | (go_at_call_of 16 Ba.p; refine (HCA.out _ HXQ.out).mono ?_; rintro _ w5 ⟨rfl, hx5⟩; obtain ⟨w12, hst12, h12, hx12⟩ := newC w5 c; have n12 := heap_lt h12)
                      | (go_at_call_of 16 Bb.p; refine (HCB.out _ (HXQ.out.trans (hx5.trans hx12))).mono ?_; rintro _ w13 ⟨rfl, hx13⟩; obtain ⟨w14, hst14, h14, hx14⟩ := newC w13 c'; have n14 := heap_lt h14)
                      | (go_at_call 44; refine (HTI.out _ (HXQ.out.trans (hx5.trans (hx12.trans (hx13.trans hx14))))).mono ?_; rintro _ _ ⟨rfl, rfl⟩))
                    go_roundw
                    case rel => exact ⟨x + 1, by omega, by go_num, Lib.hid (HXQ.out.trans (hx5.trans (hx12.trans (hx13.trans hx14))))⟩
                    case measure => simp [intOf]; omega
                  · have htji : ¬ (t : Int) = (j : Int) := by omega
                    obtain rfl := HCC.out htj
                    go_wp2_with (first
                      | (go_at_call_of 16 Ba.p; refine (HCA.out _ HXQ.out).mono ?_; rintro _ w5 ⟨rfl, hx5⟩; obtain ⟨w12, hst12, h12, hx12⟩ := newC w5 c; have n12 := heap_lt h12)
                      | (go_at_call_of 16 Bb.p; refine (HCB.out _ (HXQ.out.trans (hx5.trans hx12))).mono ?_; rintro _ w13 ⟨rfl, hx13⟩; obtain ⟨w14, hst14, h14, hx14⟩ := newC w13 c; have n14 := heap_lt h14; have l14 := CAt.load2 h14; have l12 := CAt.load2 (show CAt w14 w5.heap.size c from (hx13.trans hx14).heap h12); have n124 := heap_lt ((hx13.trans hx14).heap h12))
                      | (go_at_call 44; refine (HTI.out _ (HXQ.out.trans (hx5.trans (hx12.trans (hx13.trans hx14))))).mono ?_; rintro _ _ ⟨rfl, rfl⟩))
                    go_roundw
                    case rel => exact ⟨x + 1, by omega, by go_num, Lib.hid (HXQ.out.trans (hx5.trans (hx12.trans (hx13.trans hx14))))⟩
                    case measure => simp [intOf]; omega
                · obtain rfl : x = P.W := by omega
                  go_wp2_with fail
                  go_roundw
                  case rel => exact ⟨y + 1, by omega, by go_num, HXQ⟩
                  case measure => simp [intOf]; omega
            · obtain rfl : y = P.H := by omega
              go_wp2_with fail
              go_ret
              exact ⟨rfl, HX10.out.trans HXR1.out⟩
theorem bapart_arg (W : World) (v0 v1 v2 : Value) (h0 : ArgIs Try.prog W 91 v0) (h1 : ArgIs Try.prog W 92 v1) (h2 : ArgIs Try.prog W 3 v2) : Calls Try.prog 7 #[v0, v1, v2] W fun e w' => e = .returned (.bool true) ∧ Ext W w' := by
  obtain ⟨W0, H, d, s, o, rfl, ho⟩ := wkIn h0
  obtain ⟨L, hL⟩ := sk_arg h1
  obtain ⟨os, hos⟩ := cell_ints ho
  obtain ⟨t, rfl, _⟩ := h2.int Try.underlying3
  exact bapart_walk W0 H d s o v1 L os t W hL hos
end
end Go.Proofs.Ytgdcdkajicgliaa
