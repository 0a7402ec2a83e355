/- The law's does: Gen by the program and by the document. Conditions: each theorem's own premises. -/
import Derived.Test.YtdomijfkpbganaaNam9
namespace Go.Proofs.Ytdomijfkpbganaa
open Go.RowKit
set_option linter.unusedVariables false

theorem Chg.fresh {M : List Nat} {g : Nat} {a b c : World} (h : Chg M a b) (k : Chg [g] b c) (hg : a.heap.size ≤ g) : Chg M a c := by
  refine ⟨k.os.trans h.os, k.tape.trans h.tape, k.output.trans h.output, Nat.le_trans h.size k.size, fun i hi hm => ?_⟩
  have h1 := h.block i hi hm
  have h2 := k.block i (by have := h.size; omega) (by simp; omega)
  exact h2.trans h1
theorem genR_count (st : List Int) (i : Int) : (genR st i).1.length ≤ 64 := by
  unfold genR
  split
  · simp
  · split
    · simp
    · have := freeL_length st 64
      simp; omega
theorem natV_at (l : List Nat) (j : Nat) (h : j < l.length) : (natV l)[j]? = some (.int .i64 ((l.getD j 0 : Nat) : Int)) := by
  unfold natV
  rw [List.getElem?_map, List.getElem?_eq_getElem h, List.getD_eq_getElem?_getD, List.getElem?_eq_getElem h]
  rfl

attribute [local go_sem ↓] Go.wp_at_zero Go.wp_at_succ LdW_fold StW_fold

set_option maxHeartbeats 4000000 in
set_option maxRecDepth 20000 in
theorem does0 (p q : Nat) (st : List Int) (bd k N : Int) (w : World) (h : NmAt w p st bd) (hr : RfAt w q st bd) (hpq : p ≠ q) (hk : kindR k = 0) : Calls Try.prog 19 #[.pointer (some ⟨p, 0, none⟩), .pointer (some ⟨q, 0, none⟩), .agg #[.int .i64 k, .int .i64 N]] w fun e w' =>
    e = .returned (.bool true) ∧ NmAt w' p (genR st N).2.2 bd ∧ RfAt w' q (genR st N).2.2 bd ∧ Chg [p, q] w w' := by
  have hkind := kind_any k N (w.alloc (.cells #[.int .i64 k, .int .i64 N] 28))
  rw [hk] at hkind
  have hlp := h.lt
  have hlq := hr.lt
  have hlB := Lib.hid (show (genR st N).2.2.length = 65 by rw [genR_length]; exact hr.2)
  have hq0 := hr.2
  have hz := zero_rf
  generalize hZ : rfCells (List.replicate 65 0) 0 = Z at *
  have HZ := Lib.hid hZ
  clear hZ
  go_enter Try.func19, Try.ntmps19
  go_wp2_with (first | (go_at_call 11; refine hkind.mono ?_; rintro e w4 ⟨rfl, hx4⟩; have hnm4 := (h.ext ((Ext.refl _).alloc _)).ext hx4; have hrf4 := (hr.ext ((Ext.refl _).alloc _)).ext hx4; have hx4' := ((Ext.refl w).alloc (.cells #[.int .i64 k, .int .i64 N] 28)).trans hx4; have hoN : w4.cell? ⟨w.heap.size, 1, none⟩ = some (.int .i64 N) := hx4.cell (cell_of_heap (heap_alloc_new _ _) (o := 1) (v := _) rfl); clear hkind) | (go_at_call 12; refine (gen_any p st bd N _ hnm4).mono ?_; rintro e w6 ⟨a5, c5, rfl, hown6, hnm6, hx6⟩; have hrf6 := hrf4.chg hx6 (by simpa using fun e => hpq e.symm); have hoN6 := hx6.cell (by simp; omega) hoN))
  have hs4 := hx4.size
  simp only [World.alloc, Array.size_push] at hs4
  have hs6 := hx6.size
  have hb6 : w.heap.size < w6.heap.size := by omega
  have hb7 : w.heap.size < w6.heap.size + 1 := by omega
  have hlB' := hlB.out
  have hcnt := genR_count st N
  generalize hB : genR st N = B at *
  obtain ⟨b1, b2, b3⟩ := B
  simp only at *
  have hld := LdW_ok hrf6.drew
  have hld2 := LdW_ok ((hrf6.ext ((Ext.refl _).alloc (.cells Z 42))).drew)
  have hoN7 := ((Ext.refl w6).alloc (.cells Z 42)).cell hoN6
  generalize hC : rfCells st bd = C at *
  have HB := Lib.hid hB
  have HC := Lib.hid hC
  have HO := Lib.hid hown6
  have HX4 := Lib.hid hx4'
  have HX6 := Lib.hid hx6
  have HNM := Lib.hid hnm6
  have HRF := Lib.hid hrf6
  clear hB hC hnm4 hrf4 hnm6 hrf6 hx4 hx4' hx6 h hr hown6 hlB'
  go_region_with (go_at_call 24; rw [← HC.out]; refine (rgen_any st bd N _ hq0).mono ?_; rintro e w8 ⟨a8, c8, rfl, hs8, hb8, hx8⟩; rw [HB.out] at hs8 hb8; (try dsimp only at hs8 hb8); (first | (have hst8 := StW_ok (w := w8) (q := w6.heap.size) (st := List.replicate 65 0) (bd := 0) (bd2 := bd) ⟨hx8.heap (by rw [HZ.out]; exact heap_alloc_new w6 _), rfl⟩ hlB.out) | (have hst8 := StW_ok (w := w8.alloc (.cells Z 42)) (q := w8.heap.size) (st := List.replicate 65 0) (bd := 0) (bd2 := bd) ⟨by rw [HZ.out]; exact heap_alloc_new w8 _, rfl⟩ hlB.out)); rw [HB.out, HC.out])
  all_goals generalize hD : rfCells b3 bd = D at *
  all_goals (first
    | (have hx9 : Ext w6 (w8.setCells w6.heap.size 0 D.toList) := ext_setCells (Nat.le_refl _) _ _ _ ((((Ext.refl _).alloc _).drew).trans hx8)
       have hr9 : RfAt (w8.setCells w6.heap.size 0 D.toList) w6.heap.size b3 bd := by rw [← hD]; exact RfAt.setAll ⟨hx8.heap (by rw [HZ.out]; exact heap_alloc_new w6 _), rfl⟩ hlB.out
       have hb9 : ∀ b, (Value.slice a8 b1.length c8).ownBlock = some b → w6.heap.size + 1 ≤ b := fun b hb => by have := hb8 b hb; simpa using this
       have hs9 : SlC (w8.setCells w6.heap.size 0 D.toList) (.slice a8 b1.length c8) 1 b1.length (natV b1) := hs8.chg (chg_setCells (M := [w6.heap.size]) (b := w6.heap.size) (by simp) _ _ _ (Chg.refl _ _)) (fun b hb _ hm => by have h1 := hb9 b hb; have h2 : b = w6.heap.size := (by simpa using hm); omega)
       have hq9 : w6.heap.size ≤ w6.heap.size := Nat.le_refl _
       have hb9 : ∀ b, (Value.slice a8 b1.length c8).ownBlock = some b → w6.heap.size ≤ b := fun b hb => by have := hb9 b hb; omega
       clear hst8 hx8 hs8 hb8
       generalize w8.setCells w6.heap.size 0 D.toList = w9 at *
       generalize hrr : w6.heap.size = r at hr9 hq9 ⊢)
    | (have hx9 : Ext w6 ((w8.alloc (.cells Z 42)).setCells w8.heap.size 0 D.toList) := ext_setCells (show w6.heap.size ≤ w8.heap.size from hx8.size) _ _ _ ((((Ext.refl w6).drew).trans hx8).alloc _)
       have hr9 : RfAt ((w8.alloc (.cells Z 42)).setCells w8.heap.size 0 D.toList) w8.heap.size b3 bd := by rw [← hD]; exact RfAt.setAll ⟨by rw [HZ.out]; exact heap_alloc_new w8 _, rfl⟩ hlB.out
       have hs9 : SlC ((w8.alloc (.cells Z 42)).setCells w8.heap.size 0 D.toList) (.slice a8 b1.length c8) 1 b1.length (natV b1) := hs8.ext (ext_setCells (Nat.le_refl _) _ _ _ ((Ext.refl _).alloc _))
       have hq9 : w6.heap.size ≤ w8.heap.size := hx8.size
       have hb9 : ∀ b, (Value.slice a8 b1.length c8).ownBlock = some b → w6.heap.size ≤ b := hb8
       clear hst8 hx8 hs8 hb8
       generalize (w8.alloc (.cells Z 42)).setCells w8.heap.size 0 D.toList = w9 at *
       generalize w8.heap.size = r at *))
  all_goals have hnm9 := HNM.out.ext hx9
  all_goals have hrq9 := HRF.out.ext hx9
  all_goals have hy9 := Lib.hid (((HX4.out.chg [p, q]).trans (HX6.out.mono (by simp))).ext2 hx9)
  all_goals have hst9 := StW_ok (bd2 := bd) hrq9 hlB.out
  all_goals rw [hD] at hst9
  all_goals have hld9 := LdW_ok hr9
  all_goals rw [hD] at hld9
  all_goals have hxq := chg_setCells (M := [q]) (b := q) (by simp) D.toList 0 w9 (Chg.refl _ _)
  all_goals have hnm10 := Lib.hid (hnm9.chg hxq (by simpa using hpq))
  all_goals have hrf10 : Hid (RfAt (w9.setCells q 0 D.toList) q b3 bd) := Lib.hid (by rw [← hD]; exact RfAt.setAll hrq9 hlB.out)
  all_goals have hy10 := Lib.hid (chg_setCells (M := [p, q]) (b := q) (by simp) D.toList 0 _ hy9.out)
  all_goals have hw10 := Lib.hid (hs9.chg hxq (fun b hb _ hm => by have h1 := hb9 b hb; have h2 : b = q := (by simpa using hm); omega))
  all_goals have HB9 := Lib.hid hb9
  all_goals clear hb9
  all_goals have hz10 := Nat.le_trans hx9.size hxq.size
  all_goals clear hs9 hr9 hnm9 hrq9 hy9 hld hld2
  all_goals rcases HO.out.2 with ⟨hv, hn⟩ | ⟨g, cap, cur, hv, hgb, hgh, hgn, hgc, hgs, hgt⟩
  all_goals simp only [Value.slice.injEq] at hv
  all_goals obtain ⟨rfl, _, rfl⟩ := hv
  all_goals (try obtain rfl := List.eq_nil_of_length_eq_zero hn)
  all_goals have HD := Lib.hid hD
  all_goals clear hD
  all_goals (first
    | (clear hn hx9 hxq
       go_wp2_with fail
       generalize w9.setCells q 0 D.toList = w10 at *
       refine wp_loop_rounds 1 ?_
       rw [rounds_succ]
       go_wp2
       go_ret
       rw [HB.out]
       exact ⟨by simp, hnm10.out, hrf10.out, hy10.out⟩)
    | (have hg10 := hxq.heap (hx9.heap hgh) (by simpa using (show g ≠ q by omega))
       have hg6 := heap_lt hgh
       clear hgh hx9 hxq
       go_wp2_with fail
       generalize w9.setCells q 0 D.toList = w10 at *
       go_loopw [67] (fun i wr => ∃ (m : Nat) (cur' : Array Value), m ≤ b1.length ∧ i = .int .i64 m ∧ wr.heap[g]? = some (.cells cur' 3 (0, 0)) ∧ (∀ j, m ≤ j → j < b1.length → cur'[j]? = some (.int .i64 ((b1.getD j 0 : Nat) : Int))) ∧ Chg [g] w10 wr) (fun i _ => b1.length - (intOf i).toNat)
       case atStart =>
         refine ⟨0, cur, Nat.zero_le _, rfl, hg10, fun j _ hj => ?_, Chg.refl _ _⟩
         have h1 := natV_at b1 j hj
         rw [← hgt, List.getElem?_take_of_lt (by omega)] at h1
         simpa using h1
       case round =>
         obtain ⟨m, cur', hm, rfl, hgr, hcr, hx⟩ := hrel
         by_cases hlt : m < b1.length
         · have hml : (m : Int) < (b1.length : Int) := by omega
           have hmc : (m : Int) ≤ (b1.length : Int) := by omega
           obtain ⟨_, a9, c9, hv9, hn9, hc9, _, hp9⟩ := hw10.out
           simp only [Value.slice.injEq] at hv9
           obtain ⟨rfl, _, rfl⟩ := hv9
           obtain ⟨b9, o9, rfl, hb9, hcel9⟩ := hp9 (by omega)
           have h9 := HB9.out b9 rfl
           have hc1 : wr.cell? ⟨g, m, none⟩ = some (.int .i64 ((b1.getD m 0 : Nat) : Int)) := cell_of_heap hgr (hcr m (Nat.le_refl _) hlt)
           have hc2 := hx.cell (p := ⟨b9, o9 + m, none⟩) (by simp; omega) (hcel9 m _ (natV_at b1 m hlt))
           have hfz : wr.frozen? ⟨g, m, none⟩ = false := free_of_heap hgr
           have hgs := heap_lt hgr
           have hx2 := Lib.hid (show ∀ nq, Chg [g] w10 ((wr.drewN nq).setCell ⟨g, m, none⟩ (.int .i64 (-9))) from fun nq => (hx.drewN nq).setCell (p := ⟨g, m, none⟩) (by simp) (.int .i64 (-9)))
           have hgr2 := Lib.hid (show ∀ nq, ((wr.drewN nq).setCell ⟨g, m, none⟩ (.int .i64 (-9))).heap[g]? = _ from fun nq => heap_set (w := wr.drewN nq) (k := m) (u := .int .i64 (-9)) (show (wr.drewN nq).heap[g]? = some (.cells cur' 3 (0, 0)) by simpa using hgr))
           have HCR := Lib.hid hcr
           generalize ((b1.getD m 0 : Nat) : Int) = xx at *
           clear hcr hcel9 hp9 hgr hgt hx hg10
           go_wp2_with fail
           go_quiet (fail)
           go_wp2_with fail
           go_roundw
           case rel => exact ⟨m + 1, _, by omega, by go_num, hgr2.out _, fun j hj1 hj2 => by rw [Array.getElem?_setIfInBounds_ne (by omega)]; exact HCR.out j (by omega) hj2, hx2.out _⟩
           case measure => simp [intOf]; omega
         · obtain rfl : m = b1.length := by omega
           have h1 := Lib.hid (hnm10.out.chg hx (by simp; omega))
           have h2 := Lib.hid (hrf10.out.chg hx (by simp; omega))
           have h3 := Lib.hid (hy10.out.fresh hx (by omega))
           clear hcr hx hgr hgt hg10
           go_wp2_with fail
           go_ret
           rw [HB.out]
           exact ⟨by simp, h1.out, h2.out, h3.out⟩))

end Go.Proofs.Ytdomijfkpbganaa
