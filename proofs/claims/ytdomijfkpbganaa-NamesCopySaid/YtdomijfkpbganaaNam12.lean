/- The walk of NamesCopy. Conditions: each theorem's own premises. -/
import Derived.Test.YtdomijfkpbganaaNam11
namespace Go.Proofs.Ytdomijfkpbganaa
open Go.RowKit
set_option linter.unusedVariables false

attribute [local go_sem ↓] LdW_fold StW_fold

set_option maxHeartbeats 4000000 in
set_option maxRecDepth 20000 in
theorem copy_walk (w : World) (v1 v2 v3 : Value) (os1 os2 os3 : List (Int × Int)) (h1 : OpsAt w v1 os1) (h2 : OpsAt w v2 os2) (h3 : OpsAt w v3 os3) : Calls Try.prog 5 #[v1, v2, v3] w fun e w' => e = .returned (.bool true) ∧ Ext w w' := by
  have hz := zero_rf
  generalize hZ : rfCells (List.replicate 65 0) 0 = Z at *
  have HZ := Lib.hid hZ
  clear hZ
  go_enter Try.func5, Try.ntmps5
  go_wp2_with (first | (go_at_call 8; refine (wakes_any _).mono ?_; rintro e w1 ⟨rfl, hx1⟩) | (go_at_call 9; refine (new_any _).mono ?_; rintro e w2 ⟨p, rfl, hp, hn, hx2⟩; have hrz : RfAt (w2.alloc (.cells Z 42)) w2.heap.size (List.replicate 65 0) 0 := ⟨by rw [HZ.out]; exact heap_alloc_new _ _, rfl⟩; have hstz := StW_ok (st2 := List.replicate 65 0) (bd2 := 0) hrz rfl; have hrfA1 := Lib.hid (RfAt.setAll (st2 := List.replicate 65 0) (bd2 := 0) hrz rfl); rw [HZ.out] at hstz hrfA1; have hxz := Lib.hid (ext_setCells (b := w2.heap.size) (Nat.le_refl _) Z.toList 0 _ ((Ext.refl w2).alloc (.cells Z 42)))) | (go_at_call 10; have hxa := (hx1.trans hx2).trans hxz.out; refine (few_any _ _ _ (h1.ext hxa)).mono ?_; rintro e w3 ⟨u1, rfl, hu1, rfl⟩; have hq1 := hu1 _ h1; clear hu1; generalize os1.take 200 = qs1 at hq1; obtain ⟨_, a1, cap1, rfl, hc1, hc2, _, _⟩ := id hq1))
  have hnmA1 := Lib.hid (hn.ext hxz.out)
  have hnnA1 := Lib.hid NN.zero
  have hxp1 := Lib.hid hxa
  have hq1w := Lib.hid hq1
  have hpp := hn.lt
  have hws := hx1.size
  have hws2 := hx2.size
  clear hn hrz hstz hxa hq1 hx1 hx2 hxz
  generalize ((w2.alloc (.cells Z 42)).setCells w2.heap.size 0 Z.toList) = w3 at *
  generalize w2.heap.size = q at *
  go_loopw [24] (fun i wr1 => ∃ (m : Nat) (st : List Int) (bd : Int), m ≤ qs1.length ∧ i = .int .i64 m ∧ NmAt wr1 p st bd ∧ RfAt wr1 q st bd ∧ NN st ∧ Chg [p, q] w3 wr1) (fun i _ => qs1.length - (intOf i).toNat)
  case atStart => exact ⟨0, _, _, Nat.zero_le _, rfl, hnmA1.out, hrfA1.out, hnnA1.out, Chg.refl _ _⟩
  case round =>
    rename World => wr1
    obtain ⟨m, st1, bd1, hm, rfl, hnm, hrf, hnn, hx⟩ := hrel
    by_cases hlt : m < qs1.length
    · obtain ⟨b, off, cap', hv, hb, hcap, hel⟩ := hq1w.out.pos (by omega)
      cases hv
      obtain ⟨o, ho⟩ : ∃ o, qs1[m]? = some o := ⟨qs1[m], List.getElem?_eq_getElem hlt⟩
      obtain ⟨kk, N⟩ := o
      obtain ⟨hk1, hk2⟩ := hel m _ ho
      have hbp : b ∉ [p, q] := by simp; omega
      have hk1 := hx.cell hbp (hxp1.out.cell hk1)
      have hk2 := hx.cell hbp (hxp1.out.cell hk2)
      simp only at hk1 hk2
      have hbs : b < wr1.heap.size := by have := hx.size; have := hxp1.out.size; omega
      have hml : (m : Int) < (qs1.length : Int) := by omega
      have hdo := Lib.hid (does_any p q st1 bd1 kk N _ (hnm.ext ((Ext.refl _).alloc (.cells #[.int .i64 kk, .int .i64 N] 28))) (hrf.ext ((Ext.refl _).alloc _)) (by omega))
      have hx5 := Lib.hid (hx.alloc (.cells #[.int .i64 kk, .int .i64 N] 28))
      have hnn2 := Lib.hid (hnn.op bd1 (kk, N))
      clear hel ho hlt hnm hrf hx hnn hbp
      go_wp2_with (go_at_call 19; refine hdo.out.mono ?_; rintro e w5 ⟨rfl, hnm5, hrf5, hx6⟩)
      go_roundw
      case rel => exact ⟨m + 1, _, _, by omega, by go_num, hnm5, hrf5, hnn2.out, hx5.out.trans hx6⟩
      case measure => simp [intOf]; omega
    · obtain rfl : m = qs1.length := by omega
      clear hlt hm
      have hxw := Lib.hid (hxp1.out.chgTrans hx (by simp; omega))
      have hps := hnm.lt
      have hqs := hrf.lt
      have hst5 := hrf.2
      have HNM := Lib.hid hnm
      have HRF := Lib.hid hrf
      have HNN := Lib.hid hnn
      generalize hD : rfCells st1 bd1 = D at *
      have HD := Lib.hid hD
      clear hnm hrf hx hnn hD hxp1 hrfA1 hnmA1 hnnA1
      go_wp2_with (first | (go_at_call 20; refine (copy_any p st1 bd1 _ HNM.out).mono ?_; rintro e w5 ⟨p2, rfl, hp2, hnm5, hx5⟩; have hld5 := LdW_ok (HRF.out.ext hx5); have hrz5 : RfAt (w5.alloc (.cells Z 42)) w5.heap.size (List.replicate 65 0) 0 := ⟨by rw [HZ.out]; exact heap_alloc_new _ _, rfl⟩; have hst6 := StW_ok (st2 := st1) (bd2 := bd1) hrz5 hst5; have hrfB := Lib.hid (RfAt.setAll (st2 := st1) (bd2 := bd1) hrz5 hst5); rw [HD.out] at hld5 hst6 hrfB; have hxz5 := Lib.hid (ext_setCells (b := w5.heap.size) (Nat.le_refl _) D.toList 0 _ ((Ext.refl w5).alloc (.cells Z 42)))) | (go_at_call 10; have hxa := (hxw.out.trans hx5).trans hxz5.out; refine (few_any _ _ _ (h2.ext hxa)).mono ?_; rintro e w7 ⟨u2, rfl, hu2, rfl⟩; have hq2 := hu2 _ h2; clear hu2; generalize os2.take 200 = qs2 at hq2; obtain ⟨_, a2, cap2, rfl, hc21, hc22, _, _⟩ := id hq2))
      have hnmA2 := Lib.hid ((HNM.out.ext hx5).ext hxz5.out)
      have hrfA2 := Lib.hid ((HRF.out.ext hx5).ext hxz5.out)
      have hnnA2 := Lib.hid HNN.out
      have hnmB := Lib.hid (hnm5.ext hxz5.out)
      have hxp2 := Lib.hid hxa
      have hq2w := Lib.hid hq2
      have hp2s := hnm5.lt
      have hs5 := hx5.size
      have hw5 := hxw.out.size
      have hrs := hrfB.out.lt
      have hp2r := hnmB.out.lt
      clear hnm5 hx5 hld5 hrz5 hst6 hxz5 hxa hq2 HNM HRF HNN hxw
      generalize ((w5.alloc (.cells Z 42)).setCells w5.heap.size 0 D.toList) = w6 at *
      generalize w5.heap.size = r at *
      generalize wr1.heap.size = sz1 at *
      go_loopw [41] (fun i wr2 => ∃ (m : Nat) (st : List Int) (bd : Int), m ≤ qs2.length ∧ i = .int .i64 m ∧ NmAt wr2 p st bd ∧ RfAt wr2 q st bd ∧ NN st ∧ Chg [p, q] w6 wr2) (fun i _ => qs2.length - (intOf i).toNat)
      case atStart => exact ⟨0, _, _, Nat.zero_le _, rfl, hnmA2.out, hrfA2.out, hnnA2.out, Chg.refl _ _⟩
      case round =>
        rename World => wr2
        obtain ⟨m, st2, bd2, hm, rfl, hnm, hrf, hnn, hx⟩ := hrel
        by_cases hlt : m < qs2.length
        · obtain ⟨b, off, cap', hv, hb, hcap, hel⟩ := hq2w.out.pos (by omega)
          cases hv
          obtain ⟨o, ho⟩ : ∃ o, qs2[m]? = some o := ⟨qs2[m], List.getElem?_eq_getElem hlt⟩
          obtain ⟨kk, N⟩ := o
          obtain ⟨hk1, hk2⟩ := hel m _ ho
          have hbp : b ∉ [p, q] := by simp; omega
          have hk1 := hx.cell hbp (hxp2.out.cell hk1)
          have hk2 := hx.cell hbp (hxp2.out.cell hk2)
          simp only at hk1 hk2
          have hbs : b < wr2.heap.size := by have := hx.size; have := hxp2.out.size; omega
          have hml : (m : Int) < (qs2.length : Int) := by omega
          have hdo := Lib.hid (does_any p q st2 bd2 kk N _ (hnm.ext ((Ext.refl _).alloc (.cells #[.int .i64 kk, .int .i64 N] 28))) (hrf.ext ((Ext.refl _).alloc _)) (by omega))
          have hx5 := Lib.hid (hx.alloc (.cells #[.int .i64 kk, .int .i64 N] 28))
          have hnn2 := Lib.hid (hnn.op bd2 (kk, N))
          clear hel ho hlt hnm hrf hx hnn hbp
          go_wp2_with (go_at_call 19; refine hdo.out.mono ?_; rintro e w5 ⟨rfl, hnm5, hrf5, hx6⟩)
          go_roundw
          case rel => exact ⟨m + 1, _, _, by omega, by go_num, hnm5, hrf5, hnn2.out, hx5.out.trans hx6⟩
          case measure => simp [intOf]; omega
        · obtain rfl : m = qs2.length := by omega
          clear hlt hm
          have hnmA3 := Lib.hid (hnmB.out.chg hx (by simp; omega))
          have hrfA3 := Lib.hid (hrfB.out.chg hx (by simp; omega))
          have hnnA3 := Lib.hid hnnA2.out
          have hnmX := Lib.hid hnm
          have hrfX := Lib.hid hrf
          have hnnX := Lib.hid hnn
          have hxp3 := Lib.hid (hxp2.out.chgTrans hx (by simp; omega))
          have hsx := hx.size
          clear hnm hrf hx hnn hxp2 hrfA2 hnmA2 hnmB hrfB
          go_wp2_with (go_at_call 10; refine (few_any _ _ _ (h3.ext hxp3.out)).mono ?_; rintro e w8 ⟨u3, rfl, hu3, rfl⟩; have hq3 := hu3 _ h3; clear hu3; generalize os3.take 200 = qs3 at hq3; obtain ⟨_, a3, cap3, rfl, hc31, hc32, _, _⟩ := id hq3)
          have hq3w := Lib.hid hq3
          clear hq3
          go_loopw [53] (fun i wr3 => ∃ (m : Nat) (st : List Int) (bd : Int), m ≤ qs3.length ∧ i = .int .i64 m ∧ NmAt wr3 p2 st bd ∧ RfAt wr3 r st bd ∧ NN st ∧ Chg [p2, r] wr2 wr3) (fun i _ => qs3.length - (intOf i).toNat)
          case atStart => exact ⟨0, _, _, Nat.zero_le _, rfl, hnmA3.out, hrfA3.out, hnnA3.out, Chg.refl _ _⟩
          case round =>
            rename World => wr3
            obtain ⟨m, st3, bd3, hm, rfl, hnm, hrf, hnn, hx⟩ := hrel
            by_cases hlt : m < qs3.length
            · obtain ⟨b, off, cap', hv, hb, hcap, hel⟩ := hq3w.out.pos (by omega)
              cases hv
              obtain ⟨o, ho⟩ : ∃ o, qs3[m]? = some o := ⟨qs3[m], List.getElem?_eq_getElem hlt⟩
              obtain ⟨kk, N⟩ := o
              obtain ⟨hk1, hk2⟩ := hel m _ ho
              have hbp : b ∉ [p2, r] := by simp; omega
              have hk1 := hx.cell hbp (hxp3.out.cell hk1)
              have hk2 := hx.cell hbp (hxp3.out.cell hk2)
              simp only at hk1 hk2
              have hbs : b < wr3.heap.size := by have := hx.size; have := hxp3.out.size; omega
              have hml : (m : Int) < (qs3.length : Int) := by omega
              have hdo := Lib.hid (does_any p2 r st3 bd3 kk N _ (hnm.ext ((Ext.refl _).alloc (.cells #[.int .i64 kk, .int .i64 N] 28))) (hrf.ext ((Ext.refl _).alloc _)) (by omega))
              have hx5 := Lib.hid (hx.alloc (.cells #[.int .i64 kk, .int .i64 N] 28))
              have hnn2 := Lib.hid (hnn.op bd3 (kk, N))
              clear hel ho hlt hnm hrf hx hnn hbp
              go_wp2_with (go_at_call 19; refine hdo.out.mono ?_; rintro e w5 ⟨rfl, hnm5, hrf5, hx6⟩)
              go_roundw
              case rel => exact ⟨m + 1, _, _, by omega, by go_num, hnm5, hrf5, hnn2.out, hx5.out.trans hx6⟩
              case measure => simp [intOf]; omega
            · obtain rfl : m = qs3.length := by omega
              clear hlt hm
              have hnmY := Lib.hid (hnmX.out.chg hx (by simp; omega))
              have hrfY := hrfX.out.chg hx (by simp; omega)
              have hxw := Lib.hid (hxp3.out.chgTrans hx (by simp; omega))
              have hld1 := LdW_ok hrfY
              have HRF := Lib.hid hrf
              have HNM := Lib.hid hnm
              have HNN := Lib.hid hnn
              generalize hD1 : rfCells st2 bd2 = D1 at *
              generalize hD2 : rfCells st3 bd3 = D2 at *
              have HD1 := Lib.hid hD1
              have HD2 := Lib.hid hD2
              clear hD1 hD2 hnm hrf hx hnn hrfY
              go_wp2_with (first | (go_at_call_of 21 (Value.agg D1); rw [← HD1.out]; refine (agree_any p st2 bd2 _ hnmY.out hnnX.out).mono ?_; rintro e w9 ⟨rfl, hx9⟩; rw [HD1.out]; have hld2 := LdW_ok (HRF.out.ext hx9); rw [HD2.out] at hld2) | (go_at_call_of 21 (Value.agg D2); rw [← HD2.out]; refine (agree_any p2 st3 bd3 _ (HNM.out.ext hx9) HNN.out).mono ?_; rintro e w10 ⟨rfl, hx10⟩; rw [HD2.out]))
              go_ret
              exact ⟨rfl, (hxw.out.trans hx9).trans hx10⟩

theorem copy_arg (W : World) (v0 v1 v2 : Value) (h0 : ArgIs Try.prog W 22 v0) (h1 : ArgIs Try.prog W 22 v1) (h2 : ArgIs Try.prog W 22 v2) : Calls Try.prog 5 #[v0, v1, v2] W fun e w' => e = .returned (.bool true) ∧ Ext W w' := by
  obtain ⟨o0, k0⟩ := ops_arg h0
  obtain ⟨o1, k1⟩ := ops_arg h1
  obtain ⟨o2, k2⟩ := ops_arg h2
  exact copy_walk W v0 v1 v2 o0 o1 o2 k0 k1 k2
end Go.Proofs.Ytdomijfkpbganaa
