/- The walk of NamesDo. Conditions: each theorem's own premises. -/
import Derived.Test.YtdomijfkpbganaaNam14
import Derived.Deep.DeepCutAuto
namespace Go.Proofs.Ytdomijfkpbganaa
open Go.RowKit
set_option linter.unusedVariables false
attribute [local go_sem ↓] LdW_fold StW_fold
attribute [local go_sem] Oper.semAt_some func_nil

set_option maxHeartbeats 4000000 in
set_option maxRecDepth 20000 in
theorem do_walk (w : World) (v1 : Value) (os1 : List (Int × Int)) (h1 : OpsAt w v1 os1) : Calls Try.prog 6 #[v1] w fun e w' => e = .returned (.bool true) ∧ Ext w w' := by
  have hz := zero_rf
  generalize hZ : rfCells (List.replicate 65 0) 0 = Z at *
  have HZ := Lib.hid hZ
  clear hZ
  refine calls_of_marks Try.func6 rfl ?_
  simp only [Try.ntmps6, List.size_toArray, List.length_cons, List.length_nil, Nat.reduceAdd, Nat.reduceSub, Array.replicate_succ, Array.replicate_zero, List.push_toArray, List.append_toArray, List.nil_append, List.cons_append]
  have HV1 := Lib.hid h1
  clear h1
  go_upto_region 1 with fail
  obtain ⟨w0, hw0, hres, hx0⟩ : ∃ w0, w.alloc (.cells #[.bool false] 4) = w0 ∧ w0.heap[w.heap.size]? = some (.cells #[.bool false] 4 (0, 0)) ∧ Ext w w0 := ⟨_, rfl, heap_alloc_new _ _, (Ext.refl _).alloc _⟩
  rw [hw0]
  have HB : Hid (w.heap.size ≤ w.heap.size) := Lib.hid (Nat.le_refl _)
  generalize hb0 : w.heap.size = b0 at *
  have HB0 := Lib.hid hb0
  clear hb0 hw0
  have HRES := Lib.hid hres
  have h1 := HV1.out.ext hx0
  have HX0 := Lib.hid hx0
  clear hres hx0
  go_wp2_with (first | (go_at_call 8; refine (wakes_any _).mono ?_; rintro e w1 ⟨rfl, hx1⟩) | (go_at_call 9; refine (new_any _).mono ?_; rintro e w2 ⟨p, rfl, hp, hn, hx2⟩; have hrz : RfAt (w2.alloc (.cells Z 42)) w2.heap.size (List.replicate 65 0) 0 := ⟨by rw [HZ.out]; exact heap_alloc_new _ _, rfl⟩; have hstz := StW_ok (st2 := List.replicate 65 0) (bd2 := 0) hrz rfl; have hrfA1 := Lib.hid (RfAt.setAll (st2 := List.replicate 65 0) (bd2 := 0) hrz rfl); rw [HZ.out] at hstz hrfA1; have hxz := Lib.hid (ext_setCells (b := w2.heap.size) (Nat.le_refl _) Z.toList 0 _ ((Ext.refl w2).alloc (.cells Z 42)))) | (go_at_call 10; have hxa := (hx1.trans hx2).trans hxz.out; refine (few_any _ _ _ (h1.ext hxa)).mono ?_; rintro e w3 ⟨u1, rfl, hu1, rfl⟩; have hq1 := hu1 _ h1; clear hu1; generalize os1.take 200 = qs1 at hq1; obtain ⟨_, a1, cap1, rfl, hc1, hc2, _, _⟩ := id hq1))
  have hnmA1 := Lib.hid (hn.ext hxz.out)
  have hnnA1 := Lib.hid NN.zero
  have hxw0 := Lib.hid hxa
  have hxp1 := Lib.hid (HX0.out.trans hxa)
  have hres1 := Lib.hid (hxa.heap HRES.out)
  have hq1w := Lib.hid hq1
  have hpp := hn.lt
  have hws := hx1.size
  have hws2 := hx2.size
  have hb := heap_lt HRES.out
  clear hn hrz hstz hxa hq1 hx1 hx2 hxz HRES HX0
  generalize ((w2.alloc (.cells Z 42)).setCells w2.heap.size 0 Z.toList) = w3 at *
  generalize w2.heap.size = q at *
  go_loopw [20] (fun i wr1 => ∃ (m : Nat) (st : List Int) (bd : Int), m ≤ qs1.length ∧ i = .int .i64 m ∧ NmAt wr1 p st bd ∧ RfAt wr1 q st bd ∧ NN st ∧ Z0 st ∧ Chg [p, q] w3 wr1) (fun i _ => qs1.length - (intOf i).toNat)
  case atStart => exact ⟨0, _, _, Nat.zero_le _, rfl, hnmA1.out, hrfA1.out, hnnA1.out, Z0.zero, Chg.refl _ _⟩
  case round =>
    rename World => wr1
    obtain ⟨m, st1, bd1, hm, rfl, hnm, hrf, hnn, hz0, hx⟩ := hrel
    by_cases hlt : m < qs1.length
    · obtain ⟨b, off, cap', hv, hbl, hcap, hel⟩ := hq1w.out.pos (by omega)
      cases hv
      obtain ⟨o, ho⟩ : ∃ o, qs1[m]? = some o := ⟨qs1[m], List.getElem?_eq_getElem hlt⟩
      obtain ⟨kk, N⟩ := o
      obtain ⟨hk1, hk2⟩ := hel m _ ho
      have hbp : b ∉ [p, q] := by simp; omega
      have hk1 := hx.cell hbp (hxw0.out.cell hk1)
      have hk2 := hx.cell hbp (hxw0.out.cell hk2)
      simp only at hk1 hk2
      have hbs : b < wr1.heap.size := by have := hx.size; have := hxw0.out.size; omega
      have hml : (m : Int) < (qs1.length : Int) := by omega
      have hdo := Lib.hid (does_any p q st1 bd1 kk N _ (hnm.ext ((Ext.refl _).alloc (.cells #[.int .i64 kk, .int .i64 N] 28))) (hrf.ext ((Ext.refl _).alloc _)) (by omega))
      have hx5 := Lib.hid (hx.alloc (.cells #[.int .i64 kk, .int .i64 N] 28))
      have hnn2 := Lib.hid (hnn.op bd1 (kk, N))
      have hz2 := Lib.hid (hz0.op bd1 (kk, N))
      clear hel ho hlt hnm hrf hx hnn hbp hz0
      obtain ⟨D, hD⟩ : ∃ D, rfCells (opR st1 bd1 (kk, N)).1 (opR st1 bd1 (kk, N)).2 = D := ⟨_, rfl⟩
      have HD := Lib.hid hD
      clear hD
      go_wp2_with (first | (go_at_call 19; refine hdo.out.mono ?_; rintro e w5 ⟨rfl, hnm5, hrf5, hx6⟩; have hld := LdW_ok hrf5; rw [HD.out] at hld; have HN5 := Lib.hid hnm5; have HR5 := Lib.hid hrf5; clear hnm5 hrf5) | (go_at_call 21; rw [← HD.out]; refine (agree_any p _ _ _ HN5.out hnn2.out).mono ?_; rintro e w9 ⟨rfl, hx9⟩))
      go_roundw
      case rel => exact ⟨m + 1, _, _, by omega, by go_num, HN5.out.ext hx9, HR5.out.ext hx9, hnn2.out, hz2.out, (hx5.out.trans hx6).ext2 hx9⟩
      case measure => simp [intOf]; omega
    · obtain rfl : m = qs1.length := by omega
      clear hlt hm
      have HXW := Lib.hid (hxp1.out.chgTrans hx (by rw [HB0.out]; simp; omega))
      have hps := hnm.lt
      have hqs := hrf.lt
      have HRS := Lib.hid ((hx.heap hres1.out) (by simp; omega))
      have HNM := Lib.hid hnm
      have HRF := Lib.hid hrf
      have HZ0 := Lib.hid hz0
      clear hnm hrf hx hnn hz0 hxp1 hrfA1 hnmA1 hnnA1 hres1
      go_upto_region 14 with (go_at_call 22; refine (all_any p st1 bd1 _ HNM.out).mono ?_; rintro e w5 ⟨cb, rfl, hcb, hnm5, hx5⟩; have HN5 := Lib.hid hnm5; have HX5 := Lib.hid hx5)
      have HNC := Lib.hid (show b0 ≤ cb by have := HXW.out.size; rw [HB0.out] at this; omega)
      have HXC := Lib.hid (HXW.out.trans HX5.out)
      have HRF5 := Lib.hid (HRF.out.ext HX5.out)
      have HRS5 := Lib.hid (HX5.out.heap HRS.out)
      go_wp2_with fail
      clear HRS HRF HNM HXW hz h1
      refine wp_loop (fun a' W => ∃ (r : Nat) (ds : List Deferred) (x9 x10 x11 x12 x39 x40 x41 x42 x43 x44 x45 x46 x47 x48 x49 x50 x51 x52 x53 x54 x55 x56 x57 x58 x59 x60 x61 x62 x63 x64 x65 x66 x67 x68 x69 x70 x71 x72 x73 x74 x75 x76 x77 x78 x79 x80 x81 x82 x83 x84 : Value), r ≤ 2 ∧ Marks b0 W ds ∧ RfAt W q st1 bd1 ∧ NmAt W cb st1 bd1 ∧ Ext w W ∧ W.heap[b0]? = some (.cells #[.bool false] 4 (0, 0)) ∧ a' = { tmps := (#[v1, undef, .pointer (some ⟨b0, 0, none⟩), .pointer (some ⟨p, 0, none⟩), .pointer (some ⟨q, 0, none⟩), undef, u6, .func (.func 28) #[] #[.pointer (some ⟨cb, 0, none⟩)], .int .i64 r, x9, x10, x11, x12, .bool true, .bool false, .pointer (some ⟨p, 0, none⟩), .agg Z, v1, .slice a1 qs1.length cap1, .int .i64 qs1.length, .int .i64 qs1.length, .bool false, u22, u23, u24, u25, u26, u27, u28, u29, u30, u31, u32, u33, u34, .pointer (some ⟨p, 0, none⟩), .func (.func 28) #[] #[.pointer (some ⟨cb, 0, none⟩)], .func (.func 28) #[] #[.pointer (some ⟨cb, 0, none⟩)], .bool false, x39, x40, x41, x42, x43, x44, x45, x46, x47, x48, x49, x50, x51, x52, x53, x54, x55, x56, x57, x58, x59, x60, x61, x62, x63, x64, x65, x66, x67, x68, x69, x70, x71, x72, x73, x74, x75, x76, x77, x78, x79, x80, x81, x82, x83, x84] : Array Value), defers := ds }) (fun a' _ => 2 - (intOf (a'.tmps.getD 8 undef)).toNat) ⟨0, [], _, _, _, _, _, _, _, _, _, _, _, _, _, _, _, _, _, _, _, _, _, _, _, _, _, _, _, _, _, _, _, _, _, _, _, _, _, _, _, _, _, _, _, _, _, _, _, _, _, _, by omega, Marks.nil _ _, HRF5.out, HN5.out, HXC.out, HRS5.out, rfl⟩ ?_
      rintro a' W ⟨r, ds, x9, x10, x11, x12, x39, x40, x41, x42, x43, x44, x45, x46, x47, x48, x49, x50, x51, x52, x53, x54, x55, x56, x57, x58, x59, x60, x61, x62, x63, x64, x65, x66, x67, x68, x69, x70, x71, x72, x73, x74, x75, x76, x77, x78, x79, x80, x81, x82, x83, x84, hr, hm, hrf, hnm, hx, hrs, rfl⟩
      by_cases hlt : r < 2
      · obtain ⟨W0, hW0, h9, hx9⟩ : ∃ W0, W.alloc (.cells #[.int .i64 0] 3) = W0 ∧ W0.heap[W.heap.size]? = some (.cells #[.int .i64 0] 3 (0, 0)) ∧ Ext W W0 := ⟨_, rfl, heap_alloc_new _ _, (Ext.refl _).alloc _⟩
        have HM := Lib.hid (hm.ext hx9)
        have HRF := Lib.hid (hrf.ext hx9)
        have HNM := Lib.hid (hnm.ext hx9)
        have HX := Lib.hid (hx.trans hx9)
        have HRS := Lib.hid (hx9.heap hrs)
        have hb9 : b0 ≤ W.heap.size := by have := hx.size; rw [HB0.out] at this; exact this
        have hqb := hrf.lt
        have hcbb := hnm.lt
        have HW0 := Lib.hid hW0
        have H9 := Lib.hid h9
        clear hm hrf hnm hx hrs hx9 hW0 h9
        go_wp2_with fail
        rw [HW0.out]
        generalize W.heap.size = b9 at *
        clear HW0
        have hsz0 := heap_lt H9.out
        refine range_lawT rfl (enters_of Try.func28 (by kernel_rfl) rfl) (all_tells cb st1 bd1 W0 HNM.out 0) (Below.refl _ _) (Nat.zero_le _) (fun k args W h => by rw [h]; rfl) (fun k args A B h _ => h)
          (fun k W' => Chg [b9] W0 W' ∧ W'.heap[b9]? = some (.cells #[.int .i64 (lastO st1 k : Nat)] 3 (0, 0))) (fun _ _ => False) (fun k A B h t => ⟨h.1.turn t (Nat.le_refl _), t.cells h.2⟩) (fun _ _ _ h _ => h) ⟨Chg.refl _ _, H9.out⟩
          (fun t k args a' W' => a' = { tmps := (t.setIfInBounds 44 (args.getD 0 undef)).setIfInBounds 10 (args.getD 0 undef), defers := [] }) (fun _ _ _ _ _ _ h _ => h) ?assign ?body ?done ?stop
        case assign =>
          intro l k args W' K hk hi hg hK
          generalize (objs st1 65).getD k 0 = x at hg
          subst hg
          gi_wp2
          exact hK _ _ (Ext.refl _) (by simp; omega)
        case body =>
          rintro l k args a' W' hk hsz ⟨hch, h9'⟩ hg ha
          obtain ⟨hj65, hj2⟩ := objs_is st1 k hk
          have hll := last_lt HZ0.out k hk
          have HGAP := Lib.hid (fun m h1 h2 => last_gap st1 k m (by omega) h1 (by omega) (fun _ => h2))
          have HLS := Lib.hid (last_succ st1 k)
          generalize (objs st1 65).getD k 0 = j at *
          generalize lastO st1 k = L at *
          subst hg
          subst ha
          have hrfb := HRF.out.chg hch (by simp; omega)
          have c9 : W'.cell? ⟨b9, 0, none⟩ = some (.int .i64 (L : Nat)) := cell_of_heap h9' rfl
          have f9 : W'.frozen? ⟨b9, 0, none⟩ = false := free_of_heap h9'
          have cj := hrfb.cell j hj65
          rw [hj2] at cj
          have hll' : (L : Int) < (j : Int) := by omega
          have hj64 : (j : Int) ≤ 64 := by omega
          have HCH := Lib.hid hch
          have H9' := Lib.hid h9'
          have HRB := Lib.hid hrfb
          have HJ2 := Lib.hid hj2
          clear hch h9' hrfb hj2
          gi_wp2
          gi_loop [11] (fun u => ∃ m : Nat, L < m ∧ m ≤ j ∧ u = .int .i64 m) (fun u => j - (intOf u).toNat)
          case atStart => exact ⟨L + 1, by omega, by omega, by go_num⟩
          case round =>
            obtain ⟨m, hm1, hm2, rfl⟩ := hrel
            by_cases hmj : m < j
            · have cm := HRB.out.cell m (by omega)
              have hne := HGAP.out m hm1 hmj
              generalize st1.getD m 0 = x at cm hne
              gi_wp2
              go_round
              case rel => exact ⟨m + 1, by omega, by omega, by go_num⟩
              case measure => simp [intOf]; omega
            · obtain rfl : m = j := by omega
              have hch1 : Chg [b9] W' (W'.setCell ⟨b9, 0, none⟩ (.int .i64 (m : Nat))) := (Chg.refl _ _).setCell (by simp) _
              have HS := Lib.hid (heap_set (k := 0) (u := .int .i64 (m : Nat)) H9'.out)
              have HC1 := Lib.hid hch1
              clear hch1
              gi_wp2
              exact ⟨HC1.out.keeps (by simp; exact .inl hsz0), HC1.out.below (Nat.zero_le _) (by simp), HCH.out.trans HC1.out, by rw [HLS.out]; exact HS.out⟩
        case done =>
          rintro D W' hD ⟨hch, h9'⟩ hDW
          have HGAP := Lib.hid (fun m h1 h2 => last_gap st1 _ m (Nat.le_refl _) h1 h2 (fun h => absurd h (Nat.lt_irrefl _)))
          have HMK := Lib.hid (HM.out.more hch (by simp; exact ⟨_, H9.out, rfl⟩) (by omega) hD hDW)
          have HRF' := Lib.hid (HRF.out.chg hch (by simp; omega))
          have HNM' := Lib.hid (HNM.out.chg hch (by simp; omega))
          have HX' := Lib.hid (HX.out.chgTrans hch (by rw [HB0.out]; simp; omega))
          have HRS' := Lib.hid ((hch.heap HRS.out) (by simp; omega))
          have hsz' := hch.size
          have c9 : W'.cell? ⟨b9, 0, none⟩ = some (.int .i64 (lastO st1 (objs st1 65).length : Nat)) := cell_of_heap h9' rfl
          have n9 := heap_lt h9'
          have hL : lastO st1 (objs st1 65).length ≤ 64 := by
            unfold lastO
            split
            · omega
            · have := (objs_is st1 ((objs st1 65).length - 1) (by omega)).1
              omega
          generalize lastO st1 (objs st1 65).length = L at *
          clear hch h9' HRF HNM HX HRS
          go_wp2_with fail
          go_loop [12] (fun u => ∃ m : Nat, L < m ∧ m ≤ 65 ∧ u = .int .i64 m) (fun u => 65 - (intOf u).toNat)
          case atStart => exact ⟨L + 1, by omega, by omega, by go_num⟩
          case round =>
            obtain ⟨m, hm1, hm2, rfl⟩ := hrel
            by_cases hmj : m < 65
            · have cm := HRF'.out.cell m (by omega)
              have hne := HGAP.out m hm1 hmj
              generalize st1.getD m 0 = x at cm hne
              go_wp2_with fail
              go_round
              case rel => exact ⟨m + 1, by omega, by omega, by go_num⟩
              case measure => simp [intOf]; omega
            · obtain rfl : m = 65 := by omega
              go_wp2_with fail
              refine range_lawT rfl (enters_of Try.func28 (by kernel_rfl) rfl) (all_tells cb st1 bd1 W' HNM'.out 0) (Below.refl _ _) (Nat.zero_le _) (fun k args W h => by rw [h]; rfl) (fun k args A B h _ => h)
                (fun k W2 => Chg [] W' W2) (fun c W2 => c = .exit 10 ∧ Chg [] W' W2) (fun k A B h t => h.turn t (Nat.le_refl _)) (fun c A B h t => ⟨h.1, h.2.turn t (Nat.le_refl _)⟩) (Chg.refl _ _)
                (fun _ _ _ _ _ => True) (fun _ _ _ _ _ _ _ _ => trivial) ?assign2 ?body2 ?done2 ?stop2
              case assign2 =>
                intro l k args W2 K hk hi hg hK
                gi_wp2
                exact hK _ _ (Ext.refl _) trivial
              case body2 =>
                intro l k args a' W2 hk hsz hi hg _
                gi_wp2
                exact ⟨(Ext.refl _).keeps, rfl, hi⟩
              case' done2 => rintro D2 W2 hD2 hch2 hDW2
              case' stop2 => rintro D2 c W2 hD2 ⟨rfl, hch2⟩ hDW2
              all_goals
                have HMK2 := Lib.hid (HMK.out.more hch2 (by simp) (by omega) hD2 hDW2)
                have HRF2 := Lib.hid (HRF'.out.chg hch2 (by simp))
                have HNM2 := Lib.hid (HNM'.out.chg hch2 (by simp))
                have HX2 := Lib.hid (HX'.out.chgTrans hch2 (by simp))
                have HRS2 := Lib.hid ((hch2.heap HRS'.out) (by simp))
                clear hch2 hDW2
                go_wp2_with fail
                exact ⟨⟨r + 1, _, _, _, _, _, _, _, _, _, _, _, _, _, _, _, _, _, _, _, _, _, _, _, _, _, _, _, _, _, _, _, _, _, _, _, _, _, _, _, _, _, _, _, _, _, _, _, _, _, _, _, by omega, HMK2.out, HRF2.out, HNM2.out, HX2.out, HRS2.out, rfl⟩, by simp [intOf]; omega⟩
        case stop => rintro D c W' _ h; exact h.elim
      · obtain rfl : r = 2 := by omega
        have f0 : W.frozen? ⟨b0, 0, none⟩ = false := free_of_heap hrs
        have c0 : W.cell? ⟨b0, 0, none⟩ = some (.bool false) := cell_of_heap hrs rfl
        have hch1 : Chg [b0] W (W.setCell ⟨b0, 0, none⟩ (.bool true)) := (Chg.refl _ _).setCell (by simp) _
        have HM2 := Lib.hid (hm.chg hch1 (by simp; exact ⟨_, hrs, rfl⟩))
        have HR2 := Lib.hid (heap_set (k := 0) (u := .bool true) hrs)
        have HX2 := Lib.hid (hx.chgTrans hch1 (by rw [HB0.out]; simp))
        clear hm hrf hnm hx hrs hch1
        go_wp2_with fail
        refine retM HM2.out fun W2 ht => ?_
        have hc2 : W2.cell? ⟨b0, 0, none⟩ = some (.bool true) := cell_of_heap (ht.cells HR2.out) rfl
        exact ⟨.bool true, by simp [results, go_sem, hc2, asAddr, Try.f6], rfl, HX2.out.turned ht (by rw [HB0.out]; exact Nat.le_refl _)⟩
theorem do_arg (W : World) (v0 : Value) (h0 : ArgIs Try.prog W 22 v0) : Calls Try.prog 6 #[v0] W fun e w' => e = .returned (.bool true) ∧ Ext W w' := by
  obtain ⟨o0, k0⟩ := ops_arg h0
  exact do_walk W v0 o0 k0
end Go.Proofs.Ytdomijfkpbganaa
