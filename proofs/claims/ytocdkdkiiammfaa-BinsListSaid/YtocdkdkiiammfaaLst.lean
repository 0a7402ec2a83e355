/- The walk of BinsList. Conditions: each theorem's own premises. -/
import Derived.Test.YtocdkdkiiammfaaPla
import Derived.Test.YtocdkdkiiammfaaTld
namespace Go.Proofs.Ytocdkdkiiammfaa
open Go.RowKit
set_option linter.unusedVariables false
set_option maxRecDepth 100000
set_option linter.unusedSimpArgs false

theorem tile_len {W H : Nat} (hW : W ≤ 64) {L : List Sk} {T : List Tl} (hs : skel T = L.foldl (addS W H) (List.replicate (acr W * acr H) [])) : T.length = acr W * acr H ∧ ∀ x ∈ T, x.2.length ≤ L.length := by
  have hlen : T.length = acr W * acr H := by
    have := congrArg List.length hs
    rw [addS_fold_len, List.length_replicate] at this
    unfold skel at this
    rwa [List.length_map] at this
  refine ⟨hlen, fun x hx => ?_⟩
  obtain ⟨i, hi, rfl⟩ := List.getElem_of_mem hx
  have h : (T[i]).2.map (·.1) = L.filter (inT W H i) := by
    rw [← tl_getD T i (List.getElem?_eq_getElem hi), hs, addS_getD hW rfl L _ (by simp) i (by omega), List.getD_eq_getElem?_getD, List.getElem?_replicate, if_pos (by omega)]
    rfl
  have h2 := congrArg List.length h
  rw [List.length_map] at h2
  rw [h2]
  exact List.length_filter_le _ _
/-- What a tile has. -/
theorem tl_told {W H : Nat} (hW : W ≤ 64) {AL : List (Sk × Value)} {T : List Tl} (hs : skel T = (AL.map (·.1)).foldl (addS W H) (List.replicate (acr W * acr H) [])) (t : Int) : (tlL T t).map (·.1) = (AL.filter fun q => inT W H t q.1).map (·.1) := by
  have hl := (tile_len hW hs).1
  have hf : (AL.filter fun q => inT W H t q.1).map (·.1) = (AL.map (·.1)).filter (inT W H t) := by rw [List.filter_map]; rfl
  rw [tlL_skel, hf]
  split
  · rename_i h
    have ht : ((t.toNat : Nat) : Int) = t := by omega
    rw [hs, addS_getD hW rfl _ _ (by simp) t.toNat (by omega), List.getD_eq_getElem?_getD, List.getElem?_replicate, if_pos (by omega), ht]
    rfl
  · rename_i h
    refine (List.filter_eq_nil_iff.2 fun q _ hq => ?_).symm
    unfold inT at hq
    rw [Bool.and_eq_true, decide_eq_true_eq] at hq
    have := tile_lt hq.1 hW
    rw [hq.2] at this
    omega
/-- What holds while strokes are spoilt. -/
structure CInv (v : Value) (L : List (Sk × Value)) (w7 wq : World) (i : Nat) : Prop where
  c : Chg (skM v L) w7 wq
  o : 0 < L.length → ∃ bo cap cur, v = .slice (some ⟨bo, 0, none⟩) L.length cap ∧ wq.heap[bo]? = some (.cells (List.toArray cur) 46 (0, 0)) ∧ L.length * 14 ≤ cur.length ∧ ∀ j, i * 14 ≤ j → j < L.length * 14 → cur[j]? = (L.flatMap skC)[j]?
  q : ∀ q ∈ L, 0 < q.1.vars.length → ∃ g cap cur, q.2 = .slice (some ⟨g, 0, none⟩) q.1.vars.length cap ∧ wq.heap[g]? = some (.cells (List.toArray cur) 41 (0, 0)) ∧ q.1.vars.length * 4 ≤ cur.length
theorem CInv.start {base : Nat} {w : World} {v : Value} {L : List (Sk × Value)} (h : SksMy base w v L) : CInv v L w w 0 := by
  refine ⟨Chg.refl _ _, fun h0 => ?_, fun q hq h0 => ?_⟩
  · rcases h.1.2 with ⟨h1, h2⟩ | ⟨g, cap, cur, h1, hb, hh, hn, hm, hs, ht⟩
    · omega
    · refine ⟨g, cap, cur.toList, h1, by simpa using hh, by have h2 := Nat.mul_le_mul_right 14 hn; simp only [Array.length_toList]; omega, fun j _ hj => ?_⟩
      rw [← ht, List.getElem?_take, if_pos hj]
  · rcases (h.2 q hq).2 with ⟨h1, h2⟩ | ⟨g, cap, cur, h1, hb, hh, hn, hm, hs, ht⟩
    · omega
    · exact ⟨g, cap, cur.toList, h1, by simpa using hh, by have h2 := Nat.mul_le_mul_right 4 hn; simp only [Array.length_toList]; omega⟩
theorem CInv.vec {v : Value} {L : List (Sk × Value)} {w7 wq : World} {i : Nat} (h : CInv v L w7 wq i) {q : Sk × Value} (hq : q ∈ L) {g : Nat} {cur : List Value} (hqg : q.2.ownBlock = some g) (hg : wq.heap[g]? = some (.cells (List.toArray cur) 41 (0, 0))) (off : Nat) (vs : List Value) (hl : off + vs.length ≤ cur.length) : CInv v L w7 (wq.setCells g off vs) i := by
  have hset := heap_setCells vs off wq cur hg hl
  have hch : Chg [g] wq (wq.setCells g off vs) := chg_setCells (by simp) _ _ _ (Chg.refl _ _)
  refine ⟨h.c.trans (hch.mono (fun k hk => by rw [List.mem_singleton.1 hk]; exact skM_q hq hqg)), fun h0 => ?_, fun r hr h0 => ?_⟩
  · obtain ⟨bo, cap, cu, h1, h2, h3, h4⟩ := h.o h0
    exact ⟨bo, cap, cu, h1, hch.heap h2 (by
      simp only [List.mem_singleton]
      intro e
      subst e
      rw [hg] at h2
      simp only [Option.some.injEq, Obj.cells.injEq] at h2
      exact absurd h2.2.1 (by decide)), h3, h4⟩
  · obtain ⟨g2, cap, cu, h1, h2, h3⟩ := h.q r hr h0
    by_cases e : g2 = g
    · subst e
      rw [hg] at h2
      simp only [Option.some.injEq, Obj.cells.injEq] at h2
      have hcu : cur = cu := by simpa using congrArg Array.toList h2.1
      subst hcu
      exact ⟨g2, cap, _, h1, hset, by simp; omega⟩
    · exact ⟨g2, cap, cu, h1, hch.heap h2 (by simp only [List.mem_singleton]; exact e), h3⟩
theorem CInv.zero {v : Value} {L : List (Sk × Value)} {w7 wq : World} {i : Nat} (h : CInv v L w7 wq i) (hi : i < L.length) {bo cap : Nat} {cur : List Value} (hv : v = .slice (some ⟨bo, 0, none⟩) L.length cap) (hb : wq.heap[bo]? = some (.cells (List.toArray cur) 46 (0, 0))) (hl : L.length * 14 ≤ cur.length) (hc : ∀ j, i * 14 ≤ j → j < L.length * 14 → cur[j]? = (L.flatMap skC)[j]?) (vs : List Value) (hvl : vs.length = 14) : CInv v L w7 (wq.setCells bo (i * 14) vs) (i + 1) := by
  have hm : (i + 1) * 14 ≤ L.length * 14 := Nat.mul_le_mul_right 14 hi
  have hset := heap_setCells vs (i * 14) wq cur hb (by omega)
  have hch : Chg [bo] wq (wq.setCells bo (i * 14) vs) := chg_setCells (by simp) _ _ _ (Chg.refl _ _)
  refine ⟨h.c.trans (hch.mono (fun k hk => by rw [List.mem_singleton.1 hk]; exact skM_v (by rw [hv]; rfl))), fun h0 => ⟨bo, cap, _, hv, hset, by simp; omega, fun j h1 h2 => ?_⟩, fun r hr h0 => ?_⟩
  · rw [List.append_assoc, List.getElem?_append_right (by rw [List.length_take]; omega), List.getElem?_append_right (by rw [List.length_take]; omega), List.getElem?_drop, List.length_take, ← hc j (by omega) h2]
    congr 1
    omega
  · obtain ⟨g2, c2, cu, h1, h2, h3⟩ := h.q r hr h0
    refine ⟨g2, c2, cu, h1, hch.heap h2 ?_, h3⟩
    simp only [List.mem_singleton]
    intro e
    subst e
    rw [hb] at h2
    simp only [Option.some.injEq, Obj.cells.injEq] at h2
    exact absurd h2.2.1 (by decide)
section
attribute [local go_sem ↓] Ld_Sk St_Sk St_VcF
attribute [local go_sem] Oper.semAt_some
set_option maxHeartbeats 16000000 in
theorem blist_walk (a b : Int) (v1 v2 : Value) (L M : List (Sk × Value)) (w : World) (hL : SksAt w v1 L) (hM : SksAt w v2 M) : Calls Try.prog 4 #[.agg #[.int .i64 a, .int .i64 b], v1, v2] w fun e w' => e = .returned (.bool true) ∧ Ext w w' := by
  have HL := Lib.hid hL
  have HM := Lib.hid hM
  clear hL hM
  obtain ⟨i0, hi, hz0, hz1, hz2⟩ := info_parts info_sk3
  obtain ⟨w0, hw0, ha, hx0⟩ : ∃ w0, w.alloc (.cells #[.int .i64 a, .int .i64 b] 23) = w0 ∧ w0.heap[w.heap.size]? = some (.cells #[.int .i64 a, .int .i64 b] 23 (0, 0)) ∧ Ext w w0 := ⟨_, rfl, heap_alloc_new _ _, (Ext.refl _).alloc _⟩
  obtain ⟨b0, hb0⟩ : ∃ b0, w.heap.size = b0 := ⟨_, rfl⟩
  rw [hb0] at ha
  have HW0 := Lib.hid hw0
  have HA := Lib.hid ha
  have HX0 := Lib.hid hx0
  have HB0 := Lib.hid hb0
  clear hw0 ha hx0 hb0
  cases hs : sidesOk a b
  · have HNB := Lib.hid (fun w => new_bad a b hs w)
    have HRR : Hid (∀ w, Calls Try.prog 7 #[.int .i64 a, .int .i64 b] w fun e w' => e = .returned (.bool false) ∧ w = w') := Lib.hid (fun w => by have := right_any a b w; rw [hs] at this; exact this)
    clear hs
    go_enter Try.func4, Try.ntmps4
    go_upto_region 1 with fail
    rw [HW0.out, HB0.out]
    go_wp2_with (first | (go_at_call 5; refine (wakes_any _).mono ?_; rintro _ w1 ⟨rfl, hx1⟩; have c0 : w1.cell? ⟨b0, 0, none⟩ = some (.int .i64 a) := cell_of_heap (hx1.heap HA.out) rfl; have c1 : w1.cell? ⟨b0, 1, none⟩ = some (.int .i64 b) := cell_of_heap (hx1.heap HA.out) rfl; have n1 := heap_lt (hx1.heap HA.out); have HX1 := Lib.hid (HX0.out.trans hx1); clear hx1) | (go_at_call 6; refine (HNB.out _).mono ?_; rintro _ _ ⟨rfl, rfl⟩) | (go_at_call 7; refine (HRR.out _).mono ?_; rintro _ _ ⟨rfl, rfl⟩))
    go_ret
    exact ⟨by first | rfl | simp, HX1.out⟩
  · have hh : 1 ≤ a ∧ a ≤ 64 ∧ 1 ≤ b ∧ b ≤ 64 := by unfold sidesOk at hs; simpa using hs
    obtain ⟨W, rfl⟩ : ∃ W : Nat, a = W := ⟨a.toNat, by omega⟩
    obtain ⟨H, rfl⟩ : ∃ H : Nat, b = H := ⟨b.toNat, by omega⟩
    have HRR : Hid (∀ w, Calls Try.prog 7 #[.int .i64 (W : Int), .int .i64 (H : Int)] w fun e w' => e = .returned (.bool true) ∧ w = w') := Lib.hid (fun w => by have := right_any W H w; rw [hs] at this; exact this)
    have HNW := Lib.hid (fun w => new_any W H (by omega) (by omega) (by omega) (by omega) w)
    have HOK : Hid (1 ≤ W ∧ W ≤ 64 ∧ 1 ≤ H ∧ H ≤ 64) := Lib.hid (by omega)
    clear hs hh
    go_enter Try.func4, Try.ntmps4
    go_upto_region 1 with fail
    rw [HW0.out, HB0.out]
    go_upto_region 7 with (first
      | (go_at_call 5; refine (wakes_any _).mono ?_; rintro _ w1 ⟨rfl, hx1⟩; have c0 : w1.cell? ⟨b0, 0, none⟩ = some (.int .i64 W) := cell_of_heap (hx1.heap HA.out) rfl; have c1 : w1.cell? ⟨b0, 1, none⟩ = some (.int .i64 H) := cell_of_heap (hx1.heap HA.out) rfl; have n1 := heap_lt (hx1.heap HA.out); have HA1 := Lib.hid (hx1.heap HA.out); have HX1 := Lib.hid (HX0.out.trans hx1); clear hx1)
      | (go_at_call 6; refine (HNW.out _).mono ?_; rintro _ w2 ⟨pb, gb, rfl, hg1, hg2, hbt, hgb, hx2⟩; have d0 : w2.cell? ⟨b0, 0, none⟩ = some (.int .i64 W) := cell_of_heap (hx2.heap HA1.out) rfl; have d1 : w2.cell? ⟨b0, 1, none⟩ = some (.int .i64 H) := cell_of_heap (hx2.heap HA1.out) rfl; have n2 := heap_lt (hx2.heap HA1.out); have HA2 := Lib.hid (hx2.heap HA1.out); have HX2 := Lib.hid (HX1.out.trans hx2); have HBN := Lib.hid (fresh_bin hg1 hg2 hbt hgb hx2); have HGB : Hid (b0 < gb ∧ gb < pb ∧ pb < w2.heap.size) := Lib.hid ⟨by have := heap_lt HA1.out; omega, hg2, heap_lt hbt⟩; clear hg1 hg2 hbt hgb hx2)
      | (go_at_call 7; refine (HRR.out _).mono ?_; rintro _ _ ⟨rfl, rfl⟩)
      | (go_at_call_of 10 v1; refine (few_any v1 L _ (HL.out.ext HX2.out)).mono ?_; rintro _ w3 ⟨a1, c1', L1, rfl, hm1, he1, hx3⟩)
      | (go_at_call_of 10 v2; refine (few_any v2 M _ (HM.out.ext (HX2.out.trans hx3))).mono ?_; rintro _ w4 ⟨a2, c2, M1, rfl, hm2, he2, hx4⟩))
    obtain ⟨m1, hm1e⟩ : ∃ m1, w2.heap.size = m1 := ⟨_, rfl⟩
    obtain ⟨m2, hm2e⟩ : ∃ m2, w3.heap.size = m2 := ⟨_, rfl⟩
    rw [hm1e] at hm1
    rw [hm2e] at hm2
    have HE1 := Lib.hid he1
    have HE2 := Lib.hid he2
    have HM1 := Lib.hid (sks_ext hm1 hx4)
    have HM2 := Lib.hid hm2
    have HA4 := Lib.hid ((hx3.trans hx4).heap HA2.out)
    have HX4 := Lib.hid (HX2.out.trans (hx3.trans hx4))
    have HBN4 := Lib.hid (HBN.out.ext (hx3.trans hx4))
    have HSZ : Hid (b0 < gb ∧ gb < pb ∧ pb < m1 ∧ m1 ≤ m2 ∧ m2 ≤ w4.heap.size ∧ w.heap.size = b0) := Lib.hid (by have h1 := hx3.size; have h2 := hx4.size; have h3 := HGB.out; have h4 := HB0.out; omega)
    obtain ⟨NT, hNT⟩ : ∃ NT, acr W * acr H = NT := ⟨_, rfl⟩
    have HNT := Lib.hid hNT
    have hnt : (NT : Int) ≤ 16 := by
      have := Nat.mul_le_mul (acr_le HOK.out.2.1) (acr_le HOK.out.2.2.2)
      omega
    have y0 : ∀ x : XW w4, x.W.cell? ⟨b0, 0, none⟩ = some (.int .i64 W) := fun x => cell_of_heap (x.h.heap HA4.out) rfl
    have y1 : ∀ x : XW w4, x.W.cell? ⟨b0, 1, none⟩ = some (.int .i64 H) := fun x => cell_of_heap (x.h.heap HA4.out) rfl
    have HTI : Hid (∀ x : XW w4, Calls Try.prog 11 #[.pointer (some ⟨pb, 0, none⟩)] x.W fun e w'' => e = .returned (.int .i64 NT) ∧ Ext x.W w'') := Lib.hid (fun x => by
      have h := (HBN4.out.ext x.h).b
      rw [List.length_replicate, HNT.out] at h
      exact (tiles_any pb W H NT _ _ _ x.W h).mono (fun e w' he => ⟨he.1, by rw [← he.2]; exact Ext.refl _⟩))
    have HRT : Hid (∀ x : XW w4, Calls Try.prog 12 #[.int .i64 W, .int .i64 H] x.W fun e w'' => e = .returned (.int .i64 NT) ∧ Ext x.W w'') := Lib.hid (fun x => by
      have h := rtiles_any W H x.W HOK.out.2.1 HOK.out.2.2.2
      rw [HNT.out] at h
      exact h.mono (fun e w' he => ⟨he.1, by rw [← he.2]; exact Ext.refl _⟩))
    clear hm1 hm2 he1 he2 hx3 hx4 HBN HA1 HA2 HX1 HX2 hm1e hm2e hNT HGB HL HM c0 c1 n1 d0 d1 n2 HNW HRR HX0 HW0
    refine wp_region_ext (by kernel_rfl) (by kernel_rfl) ?_
    repeat (go_big_quiet_step (first | (go_at_call 11; exact quiet_ext (HTI.out _)) | (go_at_call 12; exact quiet_ext (HRT.out _))))
    refine wpQuiet_nil ?_
    intro _ hw'
    obtain ⟨xw, hw''⟩ := hw'
    subst hw''
    have hx5 := xw.h
    clear y0 y1 HTI HRT
    generalize xw.W = w5 at *
    have HX5 := Lib.hid (HX4.out.trans hx5)
    have HA5 := Lib.hid (hx5.heap HA4.out)
    have HM15 := Lib.hid (sks_ext HM1.out hx5)
    have HM25 := Lib.hid (sks_ext HM2.out hx5)
    have HBN5 := Lib.hid (HBN4.out.ext hx5)
    obtain ⟨m3, hm3⟩ : ∃ m3, w5.heap.size = m3 := ⟨_, rfl⟩
    have HS5 : Hid (m2 ≤ m3 ∧ w4.heap.size ≤ m3) := Lib.hid (by have := HSZ.out; have := hx5.size; omega)
    clear hx5 HM1 HM2 HA4 HX4 HBN4
    go_upto_region 10 with (go_at_call 10; refine (few_any _ L1 w5 (SksMy.at HM15.out)).mono ?_; rintro _ w6 ⟨a3, c3, L3, rfl, hm6, he3, hx6⟩)
    rw [hm3] at hm6
    rw [trim_again HE1.out] at he3
    have HM6 := Lib.hid hm6
    have HE3 := Lib.hid he3
    have HK1 : Hid ((∀ k ∈ skM (.slice a1 L1.length c1') L1, k < m3) ∧ (∀ k ∈ skM (.slice a2 M1.length c2) M1, k < m3)) := Lib.hid (by rw [← hm3]; exact ⟨fun k hk => (skM_lt HM15.out hk).2, fun k hk => (skM_lt HM25.out hk).2⟩)
    have HM16 := Lib.hid (sks_ext HM15.out hx6)
    have HM26 := Lib.hid (sks_ext HM25.out hx6)
    have HX6 := Lib.hid (HX5.out.trans hx6)
    have HA6 := Lib.hid (hx6.heap HA5.out)
    have HS6 := Lib.hid hx6.size
    have hl3 : L3.length = L1.length := by have h := congrArg List.length he3; rwa [List.length_map, List.length_map] at h
    have HL3 : Hid (L3.length = L1.length ∧ L1.length ≤ 200 ∧ M1.length ≤ 200 ∧ (∀ q ∈ L3, q.1.vars.length ≤ 3)) := Lib.hid ⟨hl3, (few_facts HE1.out).1, (few_facts HE2.out).1, fun q hq => by
      have hm : q.1 ∈ L1.map (·.1) := by rw [← HE3.out]; exact List.mem_map.2 ⟨q, hq, rfl⟩
      obtain ⟨r, hr, he⟩ := List.mem_map.1 hm
      rw [← he]
      exact (few_facts HE1.out).2 r hr⟩
    have HAD := Lib.hid (add_any _ pb gb W H _ 0 (.slice a3 L3.length c3) L3 w6 (HBN5.out.ext hx6) HOK.out.2.1 HOK.out.2.2.2 (SksMy.at hm6) (fun q hq => by have := HL3.out.2.2.2 q hq; omega) (by have := HL3.out; omega) (fun k hk hm => by
      have hkk : m3 ≤ k := by
        rcases hk with hk | ⟨q, hq, hk⟩
        · exact owns_base hm6.1 k hk
        · exact owns_base (hm6.2 q hq) k hk
      have h1 := HSZ.out
      have h2 := HS5.out
      unfold binM at hm
      simp only [List.mem_cons, List.mem_filterMap] at hm
      rcases hm with h | h | ⟨x, hx, hx2⟩
      · omega
      · omega
      · rw [(List.mem_replicate.1 hx).2] at hx2
        simp [Value.ownBlock] at hx2) (by have := HL3.out; omega) (fun x hx => by rw [(List.mem_replicate.1 hx).2]; exact Nat.zero_le _))
    have HBN6 := Lib.hid (HBN5.out.ext hx6)
    clear hm6 he3 hx6 HM15 HM25 HX5 HA5 HBN5 hl3
    go_upto_region 12 with (go_at_call 13; refine HAD.out.mono ?_; rintro _ w7 ⟨rfl, T1, hb7, hs7, hc7, ho7, hv7, hz7⟩)
    have hc67 : Chg [pb, gb] w6 w7 := hc7.mono (fun k hk => by
      unfold binM at hk
      simp only [List.mem_cons, List.mem_filterMap] at hk ⊢
      rcases hk with h | h | ⟨x, hx, hk⟩
      · exact .inl h
      · exact .inr (.inl h)
      · rw [(List.mem_replicate.1 hx).2] at hk
        simp [Value.ownBlock] at hk)
    have hty : ∀ m ∈ [pb, gb], ∃ cs e, w6.heap[m]? = some (.cells cs e (0, 0)) ∧ e ≠ 46 ∧ e ≠ 41 := fun m hm => by
      simp only [List.mem_cons, List.not_mem_nil, or_false] at hm
      rcases hm with rfl | rfl
      · exact ⟨_, _, HBN6.out.b, by decide, by decide⟩
      · exact ⟨_, _, HBN6.out.r, by decide, by decide⟩
    have HM7 := Lib.hid (sks_chg HM6.out hc67 hty)
    have HM17 := Lib.hid (sks_chg HM16.out hc67 hty)
    have HM27 := Lib.hid (sks_chg HM26.out hc67 hty)
    have HX7 := Lib.hid (HX6.out.chgTrans hc67 (by have := HSZ.out; simp; omega))
    have HA7 := Lib.hid (hc67.heap HA6.out (by have := HSZ.out; simp; omega))
    have HOV : Hid ((∀ t ∈ T1, ∀ k, t.1.ownBlock = some k → w6.heap.size ≤ k) ∧ (∀ t ∈ T1, ∀ q ∈ t.2, ∀ k, q.2.ownBlock = some k → w6.heap.size ≤ k)) := Lib.hid ⟨fun t ht k hk => by
      rcases ho7 t ht k hk with ⟨y, hy, h⟩ | h
      · rw [(List.mem_replicate.1 hy).2] at h
        simp [Value.ownBlock] at h
      · exact h, fun t ht q hq k hk => by
      rcases hv7 t ht q hq k hk with ⟨y, hy, r, hr, h⟩ | h
      · rw [(List.mem_replicate.1 hy).2] at hr
        cases hr
      · exact h⟩
    have HB7 := Lib.hid hb7
    rw [skel_new, HE3.out] at hs7
    have HSK := Lib.hid hs7
    have hli3 : (L3.length : Int) ≤ 200 := by have := HL3.out; omega
    clear hb7 hs7 hc7 ho7 hv7 hz7 hc67 hty HAD HM16 HM26 HX6 HA6 HBN6
    go_wp2_with fail
    go_loopw [65] (fun i wr => ∃ k : Nat, k ≤ L3.length ∧ i = .int .i64 k ∧ Hid (CInv (.slice a3 L3.length c3) L3 w7 wr k)) (fun i _ => L3.length - (intOf i).toNat)
    case atStart => exact ⟨0, Nat.zero_le _, rfl, Lib.hid (CInv.start HM7.out)⟩
    case round =>
      rename World => wr
      obtain ⟨k, hk, rfl, HI⟩ := hrel
      by_cases hlt : k < L3.length
      · have hki : (k : Int) < (L3.length : Int) := by omega
        obtain ⟨q, hq⟩ : ∃ q, L3[k]? = some q := ⟨_, List.getElem?_eq_getElem hlt⟩
        have HQ := Lib.hid hq
        have HQM := Lib.hid (List.mem_of_getElem? hq)
        have hql := HL3.out.2.2.2 q HQM.out
        have hqi : (q.1.vars.length : Int) ≤ 3 := by omega
        obtain ⟨va, vc, he⟩ := sk_slice (SlC.owned (HM7.out.2 q HQM.out))
        have HE := Lib.hid he
        obtain ⟨bo, cap, cur, hbv, _, _, _⟩ := HI.out.o (by omega)
        have hbv2 : a3 = some ⟨bo, 0, none⟩ := by simp only [Value.slice.injEq] at hbv; exact hbv.1
        subst hbv2
        have hcap : c3 = cap := by simp only [Value.slice.injEq] at hbv; exact hbv.2.2
        subst hcap
        have HCE : Hid (∀ wq, CInv (.slice (some ⟨bo, 0, none⟩) L3.length c3) L3 w7 wq k → wq.cell? ⟨bo, k * 14 + 9, none⟩ = some (.slice va q.1.vars.length vc) ∧ bo < wq.heap.size) := Lib.hid (fun wq hI => by
          obtain ⟨bo', cap', cur', h1, h2, h3, h4⟩ := hI.o (by omega)
          simp only [Value.slice.injEq, Option.some.injEq, Addr.mk.injEq, and_true, true_and] at h1
          obtain ⟨rfl, _⟩ := h1
          refine ⟨cell_of_heap h2 ?_, heap_lt h2⟩
          have hm : (k + 1) * 14 ≤ L3.length * 14 := Nat.mul_le_mul_right 14 hlt
          rw [List.getElem?_toArray, h4 (k * 14 + 9) (by omega) (by omega), sks_at L3 k q HQ.out 9 (by decide), ← HE.out]
          rfl)
        have e9 := (HCE.out _ HI.out).1
        have n9 := (HCE.out _ HI.out).2
        clear he hq hbv
        go_wp2_with fail
        go_loopw [75] (fun i wq => ∃ m : Nat, m ≤ q.1.vars.length ∧ i = .int .i64 m ∧ Hid (CInv (.slice (some ⟨bo, 0, none⟩) L3.length c3) L3 w7 wq k)) (fun i _ => q.1.vars.length - (intOf i).toNat)
        case atStart => exact ⟨0, Nat.zero_le _, rfl, HI⟩
        case round =>
          rename World => wq
          obtain ⟨m, hm, rfl, HJ⟩ := hrel
          have e9q := (HCE.out _ HJ.out).1
          have n9q := (HCE.out _ HJ.out).2
          by_cases hltm : m < q.1.vars.length
          · have hmi : (m : Int) < (q.1.vars.length : Int) := by omega
            obtain ⟨g, cg, cur2, hg1, hg2, hg3⟩ := HJ.out.q q HQM.out (by omega)
            have hva : va = some ⟨g, 0, none⟩ := by rw [HE.out] at hg1; simp only [Value.slice.injEq] at hg1; exact hg1.1
            have HG := Lib.hid (show q.2.ownBlock = some g by rw [hg1]; rfl)
            subst hva
            obtain ⟨hst, _, _⟩ := stF_mid 41 hg2 (m * 4) [.int .i32 9, .int .i32 0, .int .i32 0, .int .i32 0] (by simp; omega) (by kernel_rfl) (by simp [Value.oneCell'])
            have HJ2 := Lib.hid (HJ.out.vec HQM.out HG.out hg2 (m * 4) [.int .i32 9, .int .i32 0, .int .i32 0, .int .i32 0] (by simp; omega))
            obtain ⟨wz, hwz⟩ : ∃ wz, wq.setCells g (m * 4) [.int .i32 9, .int .i32 0, .int .i32 0, .int .i32 0] = wz := ⟨_, rfl⟩
            rw [hwz] at hst HJ2
            clear hwz hg1 hg2 e9 n9
            go_wp2_with fail
            go_roundw
            case rel => exact ⟨m + 1, by omega, by go_num, HJ2⟩
            case measure => simp [intOf]; omega
          · obtain rfl : m = q.1.vars.length := by omega
            obtain ⟨bo', cap', cur', h1, h2, h3, h4⟩ := HJ.out.o (by omega)
            simp only [Value.slice.injEq, Option.some.injEq, Addr.mk.injEq, and_true, true_and] at h1
            obtain ⟨rfl, rfl⟩ := h1
            have hm14 : (k + 1) * 14 ≤ L3.length * 14 := Nat.mul_le_mul_right 14 hlt
            obtain ⟨hst, _, _⟩ := stF_mid 46 h2 (k * 14) [.int .i64 0, .int .i64 0, .int .i32 0, .int .i32 0, .bool false, .int .i32 0, .int .i32 0, .int .i32 0, .int .i32 0, .slice none 0 0, .int .i32 0, .int .i32 0, .int .i32 0, .int .i32 0] (by simp; omega) (by kernel_rfl) (by simp [Value.oneCell'])
            have HJ2 := Lib.hid (HJ.out.zero hlt rfl h2 h3 h4 [.int .i64 0, .int .i64 0, .int .i32 0, .int .i32 0, .bool false, .int .i32 0, .int .i32 0, .int .i32 0, .int .i32 0, .slice none 0 0, .int .i32 0, .int .i32 0, .int .i32 0, .int .i32 0] rfl)
            obtain ⟨wz, hwz⟩ : ∃ wz, wq.setCells bo (k * 14) [.int .i64 0, .int .i64 0, .int .i32 0, .int .i32 0, .bool false, .int .i32 0, .int .i32 0, .int .i32 0, .int .i32 0, .slice none 0 0, .int .i32 0, .int .i32 0, .int .i32 0, .int .i32 0] = wz := ⟨_, rfl⟩
            rw [hwz] at hst HJ2
            clear hwz h2 h4 e9 n9
            go_wp2_with fail
            go_roundw
            case rel => exact ⟨k + 1, by omega, by go_num, HJ2⟩
            case measure => simp [intOf]; omega
      · obtain rfl : k = L3.length := by omega
        have hsk : ∀ k ∈ skM (.slice a3 L3.length c3) L3, m3 ≤ k ∧ k < w6.heap.size := fun k hk => skM_lt HM6.out hk
        have HB8 := Lib.hid (HB7.out.far HI.out.c (fun h => by have := hsk _ h; have := HSZ.out; have := HS5.out; omega) (fun h => by have := hsk _ h; have := HSZ.out; have := HS5.out; omega) (fun t ht k hk h => by have := hsk _ h; have := HOV.out.1 t ht k hk; omega) (fun t ht q hq k hk h => by have := hsk _ h; have := HOV.out.2 t ht q hq k hk; omega))
        have HM18 := Lib.hid (sks_far HM17.out HI.out.c (fun k hk h => by have := hsk _ h; have := HK1.out.1 k (skM_v hk); omega) (fun q hq k hk h => by have := hsk _ h; have := HK1.out.1 k (skM_q hq hk); omega))
        have HM28 := Lib.hid (sks_far HM27.out HI.out.c (fun k hk h => by have := hsk _ h; have := HK1.out.2 k (skM_v hk); omega) (fun q hq k hk h => by have := hsk _ h; have := HK1.out.2 k (skM_q hq hk); omega))
        have HX8 := Lib.hid (HX7.out.chgTrans HI.out.c (fun k hk => by have := hsk _ hk; have := HSZ.out; have := HS5.out; omega))
        have HA8 := Lib.hid (HI.out.c.heap HA7.out (fun h => by have := hsk _ h; have := HSZ.out; have := HS5.out; omega))
        have hto := tile_len HOK.out.2.1 HSK.out
        rw [List.length_map] at hto
        have HTO := Lib.hid hto
        have hcn : cntS W H (L3.map (·.1)) = cntS W H (L1.map (·.1)) := by rw [HE3.out]
        rw [Nat.zero_add, hcn] at HB8
        have hcb : cntS W H (L1.map (·.1)) ≤ 200 := by have h1 := cntS_le W H (L1.map (·.1)); rw [List.length_map] at h1; have := HL3.out; omega
        have HLI := Lib.hid (list_any _ pb gb W H T1 _ 0 wr HB8.out (fun x hx => by have := HTO.out.2 x hx; have := HL3.out; omega) (by have := HTO.out.1; have := HNT.out; omega))
        have HT0 : Hid ((tlL T1 0).map (·.1) = (L1.map (·.1)).filter (inT W H 0)) := Lib.hid (by
          have hp : 0 < acr W * acr H := Nat.mul_pos (by have := HOK.out.1; unfold acr; omega) (by have := HOK.out.2.2.1; unfold acr; omega)
          have h1 := HTO.out.1
          rw [tlL_skel, if_pos (by omega), HSK.out, addS_getD HOK.out.2.1 rfl _ _ (by simp) _ (by show 0 < _; exact hp), List.getD_eq_getElem?_getD, List.getElem?_replicate, if_pos (by exact hp)]
          rfl)
        have HVT : Hid (∀ q ∈ tlL T1 0, q.1.vars.length ≤ 1000) := Lib.hid (fun q hq => by
          have hm : q.1 ∈ (tlL T1 0).map (·.1) := List.mem_map.2 ⟨q, hq, rfl⟩
          rw [HT0.out] at hm
          obtain ⟨r, hr, he⟩ := List.mem_map.1 (List.mem_filter.1 hm).1
          rw [← he]
          have := (few_facts HE1.out).2 r hr
          omega)
        clear hto hcn HI HM17 HM27 HX7 HA7 HB7 HM7
        go_upto_region 23 with (go_at_call 14; refine HLI.out.mono ?_; rintro _ w9 ⟨cb, lv, rfl, hcb9, hh9, hs9, hl9, hx9⟩)
        have HM29 := Lib.hid (sks_ext HM28.out hx9)
        have HM19 := Lib.hid (sks_ext HM18.out hx9)
        have HB9 := Lib.hid (HB8.out.ext hx9)
        have HX9 := Lib.hid (HX8.out.trans hx9)
        have HA9 := Lib.hid (hx9.heap HA8.out)
        have HH9 := Lib.hid hh9
        have HS9 := Lib.hid hs9
        have HF9 : Hid (wr.heap.size ≤ cb ∧ (∀ k, lv.ownBlock = some k → wr.heap.size ≤ k ∧ k < w9.heap.size)) := Lib.hid ⟨hcb9, hl9⟩
        have HBL : Hid (∀ k ∈ binM pb gb T1, k < wr.heap.size ∧ ∃ cur e, w9.heap[k]? = some (.cells cur e (0, 0)) ∧ e ≠ 41) := Lib.hid (fun k hk => by
          have hb := HB9.out
          have hb8 := HB8.out
          unfold binM at hk
          simp only [List.mem_cons, List.mem_filterMap] at hk
          rcases hk with rfl | rfl | ⟨x, hx, hk⟩
          · exact ⟨heap_lt hb8.b, _, _, hb.b, by decide⟩
          · exact ⟨heap_lt hb8.r, _, _, hb.r, by decide⟩
          · obtain ⟨i, hi, rfl⟩ := List.getElem_of_mem hx
            obtain ⟨cur, h1, _⟩ := own_type (hb.t i _ (List.getElem?_eq_getElem hi)).1 hk
            obtain ⟨cur8, h8, _⟩ := own_type (hb8.t i _ (List.getElem?_eq_getElem hi)).1 hk
            exact ⟨heap_lt h8, _, _, h1, by decide⟩)
        clear hcb9 hh9 hs9 hl9 hx9 HLI HB8 HM18 HM28 HX8 HA8
        have h9w := HBL.out
        go_upto_region 25 with (first
          | (go_at_call 10; refine (few_any _ M1 w9 (SksMy.at HM29.out)).mono ?_; rintro _ w10 ⟨a5, c5, M2, rfl, hm10, he5, hx10⟩; rw [trim_again HE2.out] at he5)
          | (go_at_call 13; refine (add_any _ pb gb W H T1 _ (.slice a5 M2.length c5) M2 w10 (HB9.out.ext hx10) HOK.out.2.1 HOK.out.2.2.2 (SksMy.at hm10) (fun q hq => by
                have hm : q.1 ∈ M1.map (·.1) := by rw [← he5]; exact List.mem_map.2 ⟨q, hq, rfl⟩
                obtain ⟨r, hr, he⟩ := List.mem_map.1 hm
                rw [← he]
                have := (few_facts HE2.out).2 r hr
                omega) (by have h := congrArg List.length he5; rw [List.length_map, List.length_map] at h; have := HL3.out; omega) (fun k hk hm => by
                have hkk : w9.heap.size ≤ k := by
                  rcases hk with hk | ⟨q, hq, hk⟩
                  · exact owns_base hm10.1 k hk
                  · exact owns_base (hm10.2 q hq) k hk
                obtain ⟨_, cur, e, h1, _⟩ := HBL.out k hm
                have := heap_lt h1
                omega) (by have h := congrArg List.length he5; rw [List.length_map, List.length_map] at h; have := HL3.out; omega) (fun x hx => by have := HTO.out.2 x hx; have := HL3.out; omega)).mono ?_; rintro _ w11 ⟨rfl, T2, hb11, hs11, hc11, _, _, _⟩))
        have hm3' : m3 ≤ w6.heap.size := by have := HS6.out; omega
        have HBM : Hid (∀ k ∈ binM pb gb T1, (k < m1 ∧ b0 < k) ∨ m3 ≤ k) := Lib.hid (fun k hk => by
          have h1 := HSZ.out
          unfold binM at hk
          simp only [List.mem_cons, List.mem_filterMap] at hk
          rcases hk with rfl | rfl | ⟨x, hx, hk⟩
          · omega
          · omega
          · have := HOV.out.1 x hx k hk
            omega)
        have HM111 := Lib.hid (sks_far (sks_ext HM19.out hx10) hc11 (fun k hk h => by have h1 := HBM.out k h; have h2 := HK1.out.1 k (skM_v hk); have h3 := owns_base HM19.out.1 k hk; omega) (fun q hq k hk h => by have h1 := HBM.out k h; have h2 := HK1.out.1 k (skM_q hq hk); have h3 := owns_base (HM19.out.2 q hq) k hk; omega))
        have HM211 := Lib.hid (sks_far (sks_ext HM29.out hx10) hc11 (fun k hk h => by have h1 := HBM.out k h; have h2 := HK1.out.2 k (skM_v hk); have h3 := owns_base HM29.out.1 k hk; have := HSZ.out; omega) (fun q hq k hk h => by have h1 := HBM.out k h; have h2 := HK1.out.2 k (skM_q hq hk); have h3 := owns_base (HM29.out.2 q hq) k hk; have := HSZ.out; omega))
        have HX11 := Lib.hid ((HX9.out.trans hx10).chgTrans hc11 (fun k hk => by have h1 := HBM.out k hk; have := HSZ.out; have := HS5.out; omega))
        have HA11 := Lib.hid (hc11.heap (hx10.heap HA9.out) (fun h => by have h1 := HBM.out b0 h; have := HSZ.out; have := HS5.out; omega))
        have HH11 := Lib.hid (hc11.heap (hx10.heap HH9.out) (fun h => by have h1 := (HBL.out cb h).1; have := HF9.out.1; omega))
        have HS11 : Hid (SksAt w11 lv (tlL T1 0)) := Lib.hid ⟨(HS9.out.1.ext hx10).chg hc11 (fun k hk _ h => by have h1 := (HBL.out k h).1; have := (HF9.out.2 k hk).1; omega), fun q hq => ((HS9.out.2 q hq).ext hx10).chg hc11 (fun k hk _ h => by
          obtain ⟨i, x, hx, hqx⟩ := tlL_mem hq
          obtain ⟨cur, h1, _⟩ := own_type ((HB9.out.t i x hx).2 q hqx) hk
          obtain ⟨_, cur2, e, h2, h3⟩ := HBL.out k h
          rw [h1] at h2
          simp only [Option.some.injEq, Obj.cells.injEq] at h2
          exact h3 h2.2.1.symm)⟩
        have hb11' := hb11
        rw [show (cntS W H (L1.map (·.1)) + cntS W H (M2.map (·.1)) : Nat) = cntS W H ((L1 ++ M1).map (·.1)) by rw [List.map_append, cntS_append, he5]] at hb11'
        have HB11 := Lib.hid hb11'
        rw [he5, HSK.out, ← List.foldl_append, ← List.map_append] at hs11
        have HSK2 := Lib.hid hs11
        have hS11 : ∀ k, lS cb lv (tlL T1 0) k → k < w11.heap.size := fun k hk => by
          have hsz := Nat.le_trans hx10.size hc11.size
          rcases hk with rfl | hk | ⟨q, hq, hk⟩
          · exact heap_lt HH11.out
          · have := (HF9.out.2 k hk).2; omega
          · obtain ⟨i, x, hx, hqx⟩ := tlL_mem hq
            obtain ⟨cur, h1, _⟩ := own_type ((HB9.out.t i x hx).2 q hqx) hk
            have := heap_lt h1
            omega
        have HSB := Lib.hid hS11
        have l1i : L1.length ≤ 200 := HL3.out.2.1
        have l2i : M1.length ≤ 200 := HL3.out.2.2.1
        have HONE1 : Hid (∀ u ∈ L1.flatMap skC, u.oneCell' = true) := Lib.hid (sks_one L1 (fun q hq => by obtain ⟨va, vc, he⟩ := sk_slice (SlC.owned (HM111.out.2 q hq)); rw [he]; cases va <;> rfl))
        have HONE2 : Hid (∀ u ∈ M1.flatMap skC, u.oneCell' = true) := Lib.hid (sks_one M1 (fun q hq => by obtain ⟨va, vc, he⟩ := sk_slice (SlC.owned (HM211.out.2 q hq)); rw [he]; cases va <;> rfl))
        have HOM : Hid ((w11.alloc (.cells #[] 46)).ownsRow w11.heap.size 46 14 (.slice (some ⟨w11.heap.size, 0, none⟩) 0 0) 0 []) := Lib.hid (World.ownsRow_made w11 #[] 0 (Nat.le_refl _) (Nat.zero_le _) (by simp))
        clear hs11 hb11 hb11' hc11 hx10 hm10 he5 h9w HM19 HM29 HX9 HA9 HH9 HS9 HB9 hS11 HOV HBM HBL HF9
        go_wp2_with (first
          | (at_builtin; refine wpList_append_all rfl _ _ 34 rfl w11.heap.size 46 i0 (.agg #[.int .i64 0, .int .i64 0, .int .i32 0, .int .i32 0, .bool false, .int .i32 0, .int .i32 0, .int .i32 0, .int .i32 0, .slice none 0 0, .int .i32 0, .int .i32 0, .int .i32 0, .int .i32 0]) 14 88 Try.underlying34 hi hz0 hz1 hz2 rfl (by decide) (.slice (some ⟨w11.heap.size, 0, none⟩) 0 0) 0 [] rfl HOM.out L1.length (.slice a1 L1.length c1') (L1.flatMap skC) rfl ((SksMy.at HM111.out).1.ext ((Ext.refl _).alloc _)) HONE1.out (by unfold maxLen; omega) (by omega) (by simp) ?_; intro u12 w12 hown12 hgrow12; have hx12 : Ext w11 w12 := ((Ext.refl w11).alloc _).grown hgrow12 (by intro k hk; simp [Value.ownBlock] at hk; omega))
          | (at_builtin; refine wpList_append_all rfl _ _ 34 rfl w11.heap.size 46 i0 (.agg #[.int .i64 0, .int .i64 0, .int .i32 0, .int .i32 0, .bool false, .int .i32 0, .int .i32 0, .int .i32 0, .int .i32 0, .slice none 0 0, .int .i32 0, .int .i32 0, .int .i32 0, .int .i32 0]) 14 88 Try.underlying34 hi hz0 hz1 hz2 rfl (by decide) u12 (0 + L1.length) ([] ++ L1.flatMap skC) rfl hown12 M1.length (.slice a2 M1.length c2) (M1.flatMap skC) rfl ((SksMy.at HM211.out).1.ext hx12) HONE2.out (by unfold maxLen; omega) (by omega) (by have := hx12.size; omega) ?_; intro u13 w13 hown13 hgrow13; have hx13 : Ext w11 w13 := hx12.grown hgrow13 (fun k hk => owns_base hown12 k hk)))
        obtain ⟨AL, hAL⟩ : ∃ AL, L1 ++ M1 = AL := ⟨_, rfl⟩
        have hall : 0 + L1.length + M1.length = AL.length := by rw [← hAL, List.length_append]; omega
        rw [hall] at hown13
        obtain ⟨aa, ca, rfl⟩ := ownsB_slice hown13
        have HAL : Hid (SksAt w13 (.slice aa AL.length ca) AL) := Lib.hid ⟨by
          have h := SlC.owned hown13
          rw [List.nil_append, ← List.flatMap_append, hAL] at h
          exact h, fun q hq => by
          rw [← hAL] at hq
          rcases List.mem_append.1 hq with hq | hq
          · exact (SlC.owned (HM111.out.2 q hq)).ext hx13
          · exact (SlC.owned (HM211.out.2 q hq)).ext hx13⟩
        have hal : AL.length ≤ 400 := by omega
        rw [hAL] at HB11 HSK2
        have HB13 := Lib.hid (HB11.out.ext hx13)
        have HX13 := Lib.hid (HX11.out.trans hx13)
        have HA13 := Lib.hid (hx13.heap HA11.out)
        have HM113 := Lib.hid (sks_ext HM111.out hx13)
        have hT2l := (tile_len HOK.out.2.1 HSK2.out)
        rw [List.length_map] at hT2l
        have HT2 := Lib.hid hT2l
        obtain ⟨C, hC⟩ : ∃ C, cntS W H (AL.map (·.1)) = C := ⟨_, rfl⟩
        rw [hC] at HB13
        have HWI : Hid (∀ w', Ext w13 w' → Calls Try.prog 16 #[.int .i64 W, .int .i64 H, .slice aa AL.length ca] w' fun e w'' => e = .returned (.int .i64 C) ∧ Ext w' w'') := Lib.hid (fun w' x' => by rw [← hC]; exact rwithin_any W H _ AL w' HOK.out.2.1 HOK.out.2.2.2 (HAL.out.ext x') (by omega))
        have HLE : Hid (∀ w', Ext w13 w' → Calls Try.prog 15 #[.pointer (some ⟨pb, 0, none⟩)] w' fun e w'' => e = .returned (.int .i64 C) ∧ w' = w'') := Lib.hid (fun w' x' => len_any pb W H _ _ w' (HB13.out.ext x').b)
        have HTI : Hid (∀ w', Ext w13 w' → Calls Try.prog 11 #[.pointer (some ⟨pb, 0, none⟩)] w' fun e w'' => e = .returned (.int .i64 NT) ∧ w' = w'') := Lib.hid (fun w' x' => by
          have h := (HB13.out.ext x').b
          rw [HT2.out.1, HNT.out] at h
          exact tiles_any pb W H NT _ _ _ w' h)
        have HR0 : Hid (∀ w', Ext w13 w' → Calls Try.prog 18 #[.int .i64 W, .int .i64 H, .int .i64 0, .slice a1 L1.length c1'] w' fun e w'' => ∃ u, e = .returned u ∧ SksAt w'' u (L1.filter fun q => inT W H 0 q.1) ∧ Ext w' w'') := Lib.hid (fun w' x' => (rlist_any W H 0 _ L1 w' HOK.out.2.1 HOK.out.2.2.2 ((SksMy.at HM113.out).ext x') (by omega)).mono (fun e w'' he => by
          obtain ⟨u, h1, h2, h3⟩ := he
          exact ⟨u, h1, ⟨SlC.owned h2, fun q hq => (((SksMy.at HM113.out).2 q (List.mem_filter.1 hq).1).ext x').ext h3⟩, h3⟩))
        have HRA : Hid (∀ (t : Int) w', Ext w13 w' → Calls Try.prog 18 #[.int .i64 W, .int .i64 H, .int .i64 t, .slice aa AL.length ca] w' fun e w'' => ∃ u, e = .returned u ∧ SksAt w'' u (AL.filter fun q => inT W H t q.1) ∧ Ext w' w'') := Lib.hid (fun t w' x' => (rlist_any W H t _ AL w' HOK.out.2.1 HOK.out.2.2.2 (HAL.out.ext x') (by omega)).mono (fun e w'' he => by
          obtain ⟨u, h1, h2, h3⟩ := he
          exact ⟨u, h1, ⟨SlC.owned h2, fun q hq => ((HAL.out.2 q (List.mem_filter.1 hq).1).ext x').ext h3⟩, h3⟩))
        have HT0' : Hid (∀ u w', Ext w13 w' → SksAt w' u (L1.filter fun q => inT W H 0 q.1) → Calls Try.prog 17 #[.func (.func 23) #[] #[.pointer (some ⟨cb, 0, none⟩)], u] w' fun e w'' => e = .returned (.bool true) ∧ Ext w' w'') := Lib.hid (fun u w' x' hu => told_any cb lv (tlL T1 0) u _ w' ((hx13.trans x').heap HH11.out) (HS11.out.ext (hx13.trans x')) hu (by rw [HT0.out, List.filter_map]; rfl) (fun k hk => Nat.lt_of_lt_of_le (HSB.out k hk) (hx13.trans x').size) (by
          have h := congrArg List.length HT0.out
          rw [List.length_map] at h
          have h2 := List.length_filter_le (inT W H 0) (L1.map (·.1))
          rw [List.length_map] at h2
          omega) HVT.out)
        have HLT : Hid (∀ (t : Int) w', Ext w13 w' → Calls Try.prog 14 #[.pointer (some ⟨pb, 0, none⟩), .int .i64 t] w' (ListPost w' T2 t)) := Lib.hid (fun t w' x' => list_any _ pb gb W H T2 _ t w' (HB13.out.ext x') (fun x hx => by have := HT2.out.2 x hx; omega) (by have := HT2.out.1; have := HNT.out; omega))
        have HTT : Hid (∀ (t : Int) (cb : Nat) (lv u : Value) w', Ext w13 w' → w'.heap[cb]? = some (.cells #[lv] 34 (0, 0)) → SksAt w' lv (tlL T2 t) → (∀ k, lv.ownBlock = some k → k < w'.heap.size) → SksAt w' u (AL.filter fun q => inT W H t q.1) → Calls Try.prog 17 #[.func (.func 23) #[] #[.pointer (some ⟨cb, 0, none⟩)], u] w' fun e w'' => e = .returned (.bool true) ∧ Ext w' w'') := Lib.hid (fun t cb lv u w' x' hcb hlv hlk hu => by
          have hmap := tl_told HOK.out.2.1 HSK2.out t
          refine told_any cb lv (tlL T2 t) u _ w' hcb hlv hu hmap (fun k hk => ?_) ?_ (fun q hq => ?_)
          · rcases hk with rfl | hk | ⟨q, hq, hk⟩
            · exact heap_lt hcb
            · exact hlk k hk
            · obtain ⟨i, x, hx, hqx⟩ := tlL_mem hq
              obtain ⟨cur, h1, _⟩ := own_type (((HB13.out.ext x').t i x hx).2 q hqx) hk
              exact heap_lt h1
          · have h := congrArg List.length hmap
            rw [List.length_map, List.length_map] at h
            have h2 := List.length_filter_le (fun q : Sk × Value => inT W H t q.1) AL
            omega
          · have hm : q.1 ∈ (tlL T2 t).map (·.1) := List.mem_map.2 ⟨q, hq, rfl⟩
            rw [hmap] at hm
            obtain ⟨r, hr, he⟩ := List.mem_map.1 hm
            have hr2 := (List.mem_filter.1 hr).1
            rw [← hAL] at hr2
            rw [← he]
            rcases List.mem_append.1 hr2 with hr2 | hr2
            · have := (few_facts HE1.out).2 r hr2; omega
            · have := (few_facts HE2.out).2 r hr2; omega)
        clear hown13 hgrow13 hown12 hgrow12 hx12 hT2l HB11 HX11 HA11 HM111 HM211 HOM HONE1 HONE2 hC
        have HK : Hid (∀ w', Ext w13 w' → w'.cell? ⟨b0, 0, none⟩ = some (.int .i64 W) ∧ w'.cell? ⟨b0, 1, none⟩ = some (.int .i64 H)) := Lib.hid fun w' x' => ⟨cell_of_heap (x'.heap HA13.out) rfl, cell_of_heap (x'.heap HA13.out) rfl⟩
        have X0 := Lib.hid (show Ext w13 w13.drew from (Ext.refl _).drew)
        go_region_held3 (fun w' => w'.cell? ⟨b0, 0, none⟩ = some (.int .i64 W) ∧ w'.cell? ⟨b0, 1, none⟩ = some (.int .i64 H)) (first | exact HK.out _ X0.out | exact HK.out _ X14.out | exact HK.out _ X15.out | exact HK.out _ X16.out) (first
          | (go_at_call 15; refine (HLE.out _ (by first | exact X0.out | exact X14.out)).mono ?_; rintro _ _ ⟨rfl, rfl⟩)
          | (go_at_call 16; refine (HWI.out _ X0.out).mono ?_; rintro _ w14 ⟨rfl, hx14⟩; have X14 := Lib.hid (X0.out.trans hx14))
          | (go_at_call 18; refine (HR0.out _ X14.out).mono ?_; rintro _ w15 ⟨u15, rfl, hu15, hx15⟩; have X15 := Lib.hid (X14.out.trans hx15))
          | (go_at_call 17; refine (HT0'.out _ _ X15.out hu15).mono ?_; rintro _ w16 ⟨rfl, hx16⟩; have X16 := Lib.hid (X15.out.trans hx16)))
        all_goals
          have HX16 := Lib.hid X16.out
          clear hx14 hx15 hx16 hu15 X14 X15 X16 X0
          go_wp2_with fail
          go_loopw [14] (fun i wr => ∃ k : Nat, k ≤ NT + 2 ∧ i = .int .i64 ((k : Int) - 1) ∧ Hid (Ext w13 wr)) (fun i _ => NT + 2 - (intOf i + 1).toNat)
          case atStart => exact ⟨0, Nat.zero_le _, by simp, HX16⟩
          case round =>
            rename World => wr2
            obtain ⟨k, hk, rfl, HXR⟩ := hrel
            by_cases hltk : k < NT + 2
            · obtain ⟨t, ht⟩ : ∃ t : Int, (k : Int) - 1 = t := ⟨_, rfl⟩
              rw [ht]
              have htn : t ≤ (NT : Int) := by omega
              have htl : -1 ≤ t := by omega
              have HTE := Lib.hid ht
              clear ht
              have X0 := Lib.hid (HXR.out.drew)
              go_upto_region 31 with (go_at_call 11; refine (HTI.out _ HXR.out).mono ?_; rintro _ _ ⟨rfl, rfl⟩)
              go_region_held3 (fun w' => w'.cell? ⟨b0, 0, none⟩ = some (.int .i64 W) ∧ w'.cell? ⟨b0, 1, none⟩ = some (.int .i64 H)) (first | exact HK.out _ X0.out | exact HK.out _ X14.out | exact HK.out _ X15.out | exact HK.out _ X16.out) (first
                | (go_at_call 14; refine (HLT.out t _ X0.out).mono ?_; rintro _ w14 ⟨cb4, lv4, rfl, hcb4, hh4, hs4, hl4, hx14⟩; have X14 := Lib.hid (X0.out.trans hx14))
                | (go_at_call 18; refine (HRA.out t _ X14.out).mono ?_; rintro _ w15 ⟨u15, rfl, hu15, hx15⟩; have X15 := Lib.hid (X14.out.trans hx15))
                | (go_at_call 17; refine (HTT.out t cb4 lv4 u15 _ X15.out (hx15.heap hh4) (hs4.ext hx15) (fun k hk => Nat.lt_of_lt_of_le (hl4 k hk).2 hx15.size) hu15).mono ?_; rintro _ w16 ⟨rfl, hx16⟩; have X16 := Lib.hid (X15.out.trans hx16)))
              all_goals
                have HX9 := Lib.hid X16.out
                clear hcb4 hh4 hs4 hl4 hx14 hu15 hx15 hx16 X14 X15 X16 X0
                go_wp2_with fail
                go_roundw
                case rel => exact ⟨k + 1, by omega, by have := HTE.out; first | (go_num; done) | (congr 1; omega), HX9⟩
                case measure => have := HTE.out; simp [intOf]; omega
            · obtain rfl : k = NT + 2 := by omega
              have hgt : ¬ (((NT + 2 : Nat) : Int) - 1 ≤ (NT : Int)) := by omega
              go_wp2_with (go_at_call 11; refine (HTI.out _ HXR.out).mono ?_; rintro _ _ ⟨rfl, rfl⟩)
              go_ret
              exact ⟨rfl, HX13.out.trans HXR.out⟩
theorem blist_arg (W : World) (v0 v1 v2 : Value) (h0 : ArgIs Try.prog W 23 v0) (h1 : ArgIs Try.prog W 34 v1) (h2 : ArgIs Try.prog W 34 v2) : Calls Try.prog 4 #[v0, v1, v2] W fun e w' => e = .returned (.bool true) ∧ Ext W w' := by
  obtain ⟨cs, rfl, g0⟩ := h0.agg 3 (ls := [.int .i64, .int .i64]) rfl rfl rfl
  obtain ⟨u0, us, rfl, ⟨a, rfl, _⟩, g1⟩ := g0.cons_inv
  obtain ⟨u1, us, rfl, ⟨b, rfl, _⟩, g2⟩ := g1.cons_inv
  obtain rfl := g2.nil_inv
  obtain ⟨L, hL⟩ := sk_arg h1
  obtain ⟨M, hM⟩ := sk_arg h2
  exact blist_walk a b v1 v2 L M W hL hM
end
end Go.Proofs.Ytocdkdkiiammfaa
