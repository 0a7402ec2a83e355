/- Contract of the document's Vertex. Conditions: each theorem's own premises. -/
import Derived.Test.YtgbcngmciabpkaaFet6
import Derived.Deep.RegionHeld3
import Derived.Deep.DrawnRows
namespace Go.Proofs.Ytgbcngmciabpkaa
open Go.RowKit Go.ChangeShapes
set_option linter.unusedVariables false
attribute [local go_sem ↓] Go.wp_at_zero Go.wp_at_succ Ld_Vc St_Vc
set_option maxHeartbeats 2000000 in
set_option maxRecDepth 100000 in
theorem rvertex_any (v : Value) (bs : List Int) (a : Arr) (i : Int) (w : World) (h : Ints .u8 w v bs) (hb : bs.length ≤ 100000) (ha : arrOk a = true) (hi1 : 0 ≤ i) (hi2 : i ≤ 100000) :
    Calls Try.prog 14 #[v, .agg a.C.toArray, .int .i64 i] w fun e w' => e = .returned (.tuple #[.agg (vC (vxV bs a i)).toArray, .bool (vxOk bs a i)]) ∧ Ext w w' := by
  obtain ⟨hs1, hs2, hw0, ht1, ht2, ho1, ho2⟩ := arr_parts ha
  obtain ⟨w4, hw2, haa, hvv, hx⟩ : ∃ w2, (w.alloc (.cells a.C.toArray 24)).alloc (.cells #[.int .i32 0, .int .i32 0, .int .i32 0, .int .i32 0] 29) = w2 ∧ AAt w2 w.heap.size a ∧ VcAt w2 (w.heap.size + 1) vZ ∧ Ext w w2 :=
    ⟨_, rfl, (heap_pair _ _ _).1, (heap_pair _ _ _).2, ((Ext.refl _).alloc _).alloc _⟩
  have HW := Lib.hid hw2
  have HIN4 := Lib.hid (h.ext hx)
  obtain ⟨⟨_, av, cap, rfl, hc1, hc2, _, _⟩, _⟩ := h
  have HA4 := Lib.hid haa
  have HV4 := Lib.hid hvv
  have HXX := Lib.hid hx
  clear hw2 haa hvv hx
  obtain ⟨W, hW, hW1, hW4⟩ := wd_nat hw0
  obtain ⟨S, hS⟩ : ∃ S, stp a = S := ⟨_, rfl⟩
  obtain ⟨n, hn⟩ : ∃ n, a.sz * wdR a.kd = n := ⟨_, rfl⟩
  have hn1 : 1 ≤ n ∧ n ≤ 16 := by
    rw [← hn, hW]
    have : a.sz = 1 ∨ a.sz = 2 ∨ a.sz = 3 ∨ a.sz = 4 := by omega
    rcases this with h | h | h | h <;> rw [h] <;> omega
  have hS1 : 1 ≤ S ∧ S ≤ 255 := by
    rw [← hS]
    unfold stp
    split
    · rw [hn]; omega
    · omega
  obtain ⟨P, hP⟩ : ∃ P, i * S = P := ⟨_, rfl⟩
  have hP1 : 0 ≤ P ∧ P ≤ 25500000 := by
    rw [← hP]
    exact ⟨Int.mul_nonneg hi1 (by omega), Int.le_trans (Int.mul_le_mul hi2 hS1.2 (by omega) (by decide)) (by decide)⟩
  have HAT := Lib.hid (show atV a i = a.of + P by unfold atV; rw [hS, hP])
  have HOK := Lib.hid (show vxOk bs a i = decide (a.of + P + n ≤ bs.length) by unfold vxOk; rw [HAT.out, hn])
  have HSS := Lib.hid (show stp a = if a.st = 0 then n else a.st by unfold stp; rw [hn])
  have HS := Lib.hid hS
  have HN := Lib.hid hn
  have HWD := Lib.hid hW
  have hbn := heap_lt HV4.out
  obtain ⟨hn1, hn2⟩ := hn1
  obtain ⟨hP1, hP2⟩ := hP1
  obtain ⟨hS1, hS2⟩ := hS1
  clear hS hn hW
  go_enter Try.func14, Try.ntmps14
  go_upto_region 1 with fail
  rw [HW.out]
  generalize hb0 : w.heap.size = b0 at *
  have HB0 := Lib.hid hb0
  clear hb0 HW
  have c0 : w4.cell? ⟨b0, 0, none⟩ = some (.int .i64 a.sz) := cell_of_heap HA4.out rfl
  have c1 : w4.cell? ⟨b0, 1, none⟩ = some (.int .i64 a.kd) := cell_of_heap HA4.out rfl
  have c3 : w4.cell? ⟨b0, 3, none⟩ = some (.int .i64 a.st) := cell_of_heap HA4.out rfl
  have c4 : w4.cell? ⟨b0, 4, none⟩ = some (.int .i64 a.of) := cell_of_heap HA4.out rfl
  have hnn : a.sz * (W : Int) = n := by rw [← HWD.out]; exact HN.out
  have n4 := heap_lt HA4.out
  go_upto_if 19 with (go_at_call 18; refine (wd_any _ _).mono ?_; rw [HWD.out]; rintro _ _ ⟨rfl, rfl⟩)
  go_cut [9] (fun x wc => x = .int .i64 S ∧ w4 = wc)
  case first =>
    have HSS' := Lib.hid (show S = if a.st = 0 then n else a.st by rw [← HS.out]; exact HSS.out)
    clear hP
    by_cases h0 : a.st = 0
    · have h0' := Lib.hid h0
      rw [h0]
      clear h0 ht1 ht2 c3
      go_wp2_with fail
      go_meet
      exact ⟨congrArg (Value.int .i64) (by rw [HSS'.out, if_pos h0'.out]), rfl⟩
    · have h0' := Lib.hid h0
      have h0b : (a.st == 0) = false := by simpa using h0
      clear h0
      go_wp2_with fail
      go_meet
      exact ⟨congrArg (Value.int .i64) (by rw [HSS'.out, if_neg h0'.out]), rfl⟩
  case rest =>
    obtain ⟨rfl, rfl⟩ := hcut
    go_upto_region 6 with fail
    clear c3 c4
    obtain ⟨A, hA⟩ : ∃ A : Nat, a.of + P = (A : Int) := ⟨(a.of + P).toNat, by omega⟩
    rw [hA]
    have HAA := Lib.hid hA
    have hA1 : A ≤ 30000000 := by omega
    obtain ⟨N, hN⟩ : ∃ N : Nat, n = (N : Int) := ⟨n.toNat, by omega⟩
    subst hN
    have HOK2 := Lib.hid (show vxOk bs a i = decide (A + N ≤ bs.length) by rw [HOK.out, hA]; exact decide_eq_decide.2 (by omega))
    clear hA hP
    by_cases hok : A + N ≤ bs.length
    · have HVE := Lib.hid (show vxOk bs a i = true by rw [HOK2.out]; exact decide_eq_true hok)
      obtain ⟨w5, hst, h5, hx5⟩ := newV w4 (vxL bs a i 0) (vxL_len _ _ _ _)
      have hst : (@Classical.epsilon _ neG (StF 29 (.pointer (some ⟨w4.heap.size, 0, none⟩)) (.agg #[.int .i32 0, .int .i32 0, .int .i32 0, .int .i32 65536]))).run Try.prog (w4.alloc (.cells #[.int .i32 0, .int .i32 0, .int .i32 0, .int .i32 0] 29)) = .ok () w5 := hst
      have H5 := Lib.hid h5
      have HX5 := Lib.hid hx5
      clear h5 hx5
      go_upto_region 9 with fail
      clear hst hnn
      have HA6 := Lib.hid (HA4.out.ext HX5.out)
      have HV6 := Lib.hid (HV4.out.ext HX5.out)
      have HIN6 := Lib.hid (HIN4.out.ext HX5.out)
      have HX6' := Lib.hid (HXX.out.trans HX5.out)
      have hbv := heap_lt H5.out
      generalize w4.heap.size = bv at *
      clear HA4 HV4 HX5 HXX HIN4 c0 c1 n4
      obtain ⟨SZ, hSZ⟩ : ∃ SZ : Nat, a.sz = (SZ : Int) := ⟨a.sz.toNat, by omega⟩
      have HSZ := Lib.hid hSZ
      have hprod : SZ * W = N := by
        have := HN.out
        rw [hSZ, HWD.out] at this
        exact_mod_cast this
      have HPR := Lib.hid hprod
      have hSZ1 : 1 ≤ SZ := by omega
      have hSZ4 : SZ ≤ 4 := by omega
      have c0 : w5.cell? ⟨b0, 0, none⟩ = some (.int .i64 a.sz) := cell_of_heap HA6.out rfl
      rw [hSZ] at c0
      have n6 := heap_lt HA6.out
      clear hprod hSZ hs1 hs2
      go_wp2_with fail
      go_loopw [43] (fun u wr => ∃ m : Nat, m ≤ SZ ∧ u = .int .i64 m ∧ VcAt wr bv (vxL bs a i m) ∧ Chg [bv] w5 wr) (fun u _ => SZ - (intOf u).toNat)
      case atStart => exact ⟨0, Nat.zero_le _, rfl, H5.out, Chg.refl _ _⟩
      case round =>
        rename World => wr
        obtain ⟨m, hm, rfl, hvc, hch⟩ := hrel
        have HVC := Lib.hid hvc
        have HCH := Lib.hid hch
        clear hvc hch
        by_cases hlt : m < SZ
        · have hmw : m * W + W ≤ N := by
            rw [← HPR.out, ← Nat.succ_mul]
            exact Nat.mul_le_mul_right W hlt
          have HINr := HIN6.out.chg HCH.out (fun b hb h0 hm => by
            simp at hm
            subst hm
            obtain ⟨b', off, he, _, hcell⟩ := HIN6.out.pos h0
            rw [he] at hb
            simp [Value.ownBlock] at hb
            subst hb
            have h1 := hcell 0 h0
            have h2 := H5.out
            unfold VcAt at h2
            simp only [World.cell?, h2] at h1
            simp [vC] at h1)
          obtain ⟨x, hx⟩ : ∃ x, rdV a.kd (bsAt bs (A + m * W) W) = x := ⟨_, rfl⟩
          obtain ⟨y, hy⟩ : ∃ y, (numR a.kd a.nm x).1 = y := ⟨_, rfl⟩
          have HY := Lib.hid (show numAt bs a i m = y by
            unfold numAt
            rw [HAT.out, HAA.out, HWD.out]
            show (numR a.kd a.nm (rdV a.kd (bsAt bs (A + m * W) W))).1 = y
            rw [hx, hy])
          obtain ⟨Q, hQ⟩ : ∃ Q : Nat, m * W = Q := ⟨_, rfl⟩
          rw [hQ] at hmw hx
          have HRC : Hid (Calls Try.prog 28 #[.slice av bs.length cap, .int .i64 a.kd, .int .i64 ((A + Q : Nat) : Int)] wr.drew fun e w'' => e = .returned (.int .i64 x) ∧ wr.drew = w'') := Lib.hid (by
            have := read_any2 _ bs a.kd (A + Q) _ (HINr.ext (Ext.refl _).drew) hw0 (by rw [HWD.out]; omega) (by omega)
            rw [HWD.out, show ((W : Int)).toNat = W from rfl, hx] at this
            exact this)
          have HNM : Hid (∀ w', Calls Try.prog 16 #[.int .i64 a.kd, .bool a.nm, .int .i64 x] w' fun e w'' => e = .returned (.tuple #[.int .i32 y, .bool (numB a.kd a.nm x)]) ∧ w' = w'') := Lib.hid (fun w' => by
            have := rnum_any a.kd a.nm x w'
            rw [hy] at this
            exact this)
          have e1 : IntKind.i64.wrap ((m : Int) * (W : Int)) = (Q : Int) := by
            rw [← hQ]
            have : ((m : Int) * (W : Int)) = ((m * W : Nat) : Int) := by simp
            rw [this]
            exact IntWalk.i64_in _ (by omega)
          have e2 : IntKind.i64.wrap ((A : Int) + (Q : Int)) = ((A + Q : Nat) : Int) := by rw [IntWalk.i64_in _ (by omega)]; omega
          have hml : (m : Int) < (SZ : Int) := by omega
          have hm4 : m < 4 := by omega
          have g1 : wr.drew.cell? ⟨b0, 1, none⟩ = some (.int .i64 a.kd) := cell_of_heap ((HA6.out.chg HCH.out (by simp; omega)).ext (Ext.refl _).drew) rfl
          have g2 : wr.drew.cell? ⟨b0, 2, none⟩ = some (.bool a.nm) := cell_of_heap ((HA6.out.chg HCH.out (by simp; omega)).ext (Ext.refl _).drew) rfl
          have n0r : b0 < wr.heap.size := by have := HCH.out.size; omega
          have hvd := (HVC.out.ext (Ext.refl _).drew)
          have g4 := hvd.cell m (by rw [vxL_len]; exact hm4)
          have g5 : wr.drew.frozen? ⟨bv, m, none⟩ = false := free_of_heap hvd
          have nv := heap_lt HVC.out
          have HVC11 : Hid (VcAt (wr.drew.setCell ⟨bv, m, none⟩ (.int .i32 y)) bv (vxL bs a i (m + 1))) := by
            have := hvd.set m y
            rw [← HY.out, vxL_set _ _ _ _ hm4, HY.out] at this
            exact this
          have HC11 : Hid (Chg [bv] w5 (wr.drew.setCell ⟨bv, m, none⟩ (.int .i32 y))) := Lib.hid ((HCH.out.trans ((Ext.refl _).drew.chg _)).setCell (by simp) _)
          have HAS := (HA6.out.chg (HCH.out.setCell (p := ⟨bv, m, none⟩) (by simp) (.int .i32 y)) (by simp; omega)).ext (Ext.refl _).drew
          have g11 : (wr.setCell ⟨bv, m, none⟩ (.int .i32 y)).drew.cell? ⟨b0, 1, none⟩ = some (.int .i64 a.kd) := cell_of_heap HAS rfl
          have g12 : (wr.setCell ⟨bv, m, none⟩ (.int .i32 y)).drew.cell? ⟨b0, 2, none⟩ = some (.bool a.nm) := cell_of_heap HAS rfl
          have hm4i : (m : Int) < 4 := by omega
          have hmn : ((m : Int)).toNat = m := rfl
          clear HAS
          have hbb1 : b0 ≠ bv := by omega
          have hbb2 : bv ≠ b0 := by omega
          clear hx hy hlt hQ hvd HINr
          go_upto_region 12 with fail
          go_region_held3 (fun w' => w'.cell? (⟨b0, 1, none⟩ : Addr) = some (.int .i64 a.kd) ∧ w'.cell? (⟨b0, 2, none⟩ : Addr) = some (.bool a.nm)) (go_keep) (first | (go_at_call 28; refine HRC.out.mono ?_; rintro _ _ ⟨rfl, rfl⟩) | (go_at_call 16; refine (HNM.out _).mono ?_; rintro _ _ ⟨rfl, rfl⟩))
          all_goals go_wp2_with fail
          go_roundw
          case rel => exact ⟨m + 1, by omega, by go_num, HVC11.out, HC11.out⟩
          case measure => simp [intOf]; omega
        · obtain rfl : m = SZ := by omega
          have hld := HVC.out.load (vxL_len _ _ _ _)
          have nv := heap_lt HVC.out
          have HVR := HV6.out.chg HCH.out (by simp; omega)
          obtain ⟨w7, hst, h7, hc7⟩ := HVR.put rfl (vxL bs a i m) (vxL_len _ _ _ _)
          have H7 := Lib.hid h7
          have HX7 := Lib.hid ((HX6'.out.chgTrans HCH.out (by simp; have := HX6'.out.size; have := HB0.out; omega)).chgTrans hc7 (by simp; have := HB0.out; omega))
          clear h7 hc7 HVR
          go_wp2_with fail
          refine bodyPost_ret (results_cellT rfl _ _ ⟨b0 + 1, 0, none⟩ _ rfl (H7.out.ret (vxL_len _ _ _ _)) _ rfl) rfl ?_
          exact ⟨by unfold vxV; rw [HVE.out, HSZ.out]; rfl, HX7.out⟩
    · have HVE := Lib.hid (show vxOk bs a i = false by rw [HOK2.out]; exact decide_eq_false hok)
      obtain ⟨w5, hst, h5, hc5⟩ := HV4.out.put rfl vZ rfl
      have hst : (@Classical.epsilon _ neG (StF 29 (.pointer (some ⟨b0 + 1, 0, none⟩)) (.agg #[.int .i32 0, .int .i32 0, .int .i32 0, .int .i32 0]))).run Try.prog w4 = .ok () w5 := hst
      have H5 := Lib.hid h5
      have HC5 := Lib.hid hc5
      clear h5 hc5
      go_wp2_with fail
      refine bodyPost_ret (results_cellT rfl _ _ ⟨b0 + 1, 0, none⟩ _ rfl (H5.out.ret rfl) _ rfl) rfl ?_
      exact ⟨by unfold vxV; rw [HVE.out]; rfl, HXX.out.chgTrans HC5.out (by simp; rw [HB0.out]; omega)⟩
end Go.Proofs.Ytgbcngmciabpkaa
