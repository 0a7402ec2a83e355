/- The walk of FetchRows. Conditions: each theorem's own premises. -/
import Derived.Test.YtgbcngmciabpkaaFet23
import Derived.Laws.BytesArg
namespace Go.Proofs.Ytgbcngmciabpkaa
open Go.RowKit Go.ChangeShapes
set_option linter.unusedVariables false

theorem conv_ints {w : World} {v : Value} {zs : List Int} (h : Ints .u8 w v zs) : (convert 22 9 v).run Try.prog w = .ok (.string (strOfNums zs)) w := by
  obtain ⟨a, cap, rfl⟩ : ∃ a cap, v = .slice a zs.length cap := by obtain ⟨⟨_, a, cap, rfl, _⟩, _⟩ := h; exact ⟨a, cap, rfl⟩
  by_cases h0 : 0 < zs.length
  · obtain ⟨b, off, rfl, _, hc⟩ := h.pos h0
    exact run_convert_bytes_arg w 22 5 Try.underlying22 Try.underlying5 b off zs.length cap zs rfl hc 9 Try.underlying9
  · have : zs = [] := List.eq_nil_of_length_eq_zero (by omega)
    subst this
    show (convert 22 9 (.slice a 0 cap)).run Try.prog w = _
    rw [run_convert_bytes_string w 22 9 5 a 0 cap Try.underlying22 Try.underlying5 Try.underlying9]
    cases a with
    | none => simp [Conv.bytesToString, strOfNums]; rfl
    | some x => simp [Conv.bytesToString, strOfNums, loadCells, loadCellsFrom]; rfl
theorem equal_any (v u : Value) (zs : List Int) (w : World) (h : Ints .u8 w v zs) (k : Ints .u8 w u zs) : Calls Try.prog 25 #[v, u] w fun e w' => e = .returned (.bool true) ∧ w = w' := by
  have h1 := conv_ints h
  have k1 := conv_ints k
  go_enter Try.func25, Try.ntmps25
  go_wp2
  go_ret
  exact ⟨by simp, rfl⟩
attribute [local go_sem] eq_vec
attribute [local go_sem ↓] Ld_Vc St_Vc Ld_Ar
set_option maxRecDepth 100000 in
set_option maxHeartbeats 4000000 in
theorem rows_walk (v : Value) (zs : List Int) (a : Arr) (f n : Int) (w : World) (h : Ints .u8 w v zs) : Calls Try.prog 9 #[v, .agg (FC a f n).toArray] w fun e w' => e = .returned (.bool true) ∧ Ext w w' := by
  obtain ⟨i0, hi, hz0, hz1, hz2⟩ := info_parts info_u8
  obtain ⟨w0, hw0, ha, hx0⟩ : ∃ w0, w.alloc (.cells (FC a f n).toArray 58) = w0 ∧ FrAt w0 w.heap.size a f n ∧ Ext w w0 := ⟨_, rfl, heap_alloc_new _ _, (Ext.refl _).alloc _⟩
  have HW0 := Lib.hid hw0
  have HA := Lib.hid ha
  have HX0 := Lib.hid hx0
  have HIN := Lib.hid h
  clear hw0 ha hx0 h
  have hb : (zs.take 3000).length ≤ 3000 := by rw [List.length_take]; omega
  have HSH := Lib.hid (fun w h => short_any v zs w h)
  generalize zs.take 3000 = ys at *
  have HRW := Lib.hid (fun v w (h : Ints .u8 w v ys) => row_any v ys a f n w h (by omega))
  have HRR := Lib.hid (fun v w (h : Ints .u8 w v ys) => rrow_any v ys a f n w h (by omega))
  obtain ⟨E, hE⟩ : ∃ E, rowE ys a f n = E := ⟨_, rfl⟩
  obtain ⟨N, hN⟩ : ∃ N, rowN ys a f n = N := ⟨_, rfl⟩
  rw [hE, hN] at HRW HRR
  have hN256 : N ≤ 256 := by
    rw [← hN]
    unfold rowN
    split
    · rename_i hh
      simp only [Bool.and_eq_true, decide_eq_true_eq] at hh
      omega
    · omega
  clear hE hN
  have hyl : (ys.length : Int) ≤ 3000 := by omega
  go_enter Try.func9, Try.ntmps9
  go_upto_region 1 with fail
  rw [HW0.out]
  generalize hb0 : w.heap.size = b0 at *
  have HB0 := Lib.hid hb0
  clear hb0 HW0
  go_wp2_with (first | (go_at_call 10; refine (wakes_any _).mono ?_; rintro _ w1 ⟨rfl, hx1⟩; have HX1 := Lib.hid (HX0.out.trans hx1); have HA1 := Lib.hid (HA.out.ext hx1); have HIN1 := Lib.hid (HIN.out.ext HX1.out); clear hx1) | (go_at_call 11; refine (HSH.out _ HIN1.out).mono ?_; rintro _ w2 ⟨b, c, rfl, hin2, hbc, h7, hbb, hx2⟩; have HX2 := Lib.hid (HX1.out.trans hx2); have HA2 := Lib.hid (HA1.out.ext hx2); have HIN2 := Lib.hid hin2; have H7 := Lib.hid h7; clear hx2 hin2 h7) | (at_builtin; refine wpList_append_all rfl _ _ 22 rfl w2.heap.size 5 i0 (.int .u8 0) 1 1 Try.underlying22 hi hz0 hz1 hz2 rfl (by decide) _ _ _ rfl (World.ownsRow_made w2 #[] 0 (Nat.le_refl _) (Nat.zero_le _) (by simp)) ys.length _ _ rfl (HIN2.out.1.ext ((Ext.refl _).alloc _)) int_one ?c4 ?c5 ?c6 ?_))
  case c4 => unfold maxLen; omega
  case c5 => omega
  case c6 => simp
  intro v3 w3 hown3 hgrow3
  have hx3 : Ext w2 w3 := ((Ext.refl w2).alloc _).grown hgrow3 (fun k hk => by simp [Value.ownBlock] at hk; omega)
  obtain ⟨a3, c3, rfl⟩ := owns_slice hown3
  try simp only [Nat.zero_add, List.nil_append] at hown3
  have HW3 := Lib.hid (Ints.of_ownedT hown3 HIN2.out.2)
  have HIN3 := Lib.hid (HIN2.out.ext hx3)
  have H73 := Lib.hid (hx3.cell H7.out)
  have HA3 := Lib.hid (HA2.out.ext hx3)
  have HX3 := Lib.hid (HX2.out.trans hx3)
  have hl3 := HA3.out.load
  have hf3 := HA3.out.first
  have hc3 := HA3.out.count
  have n3 := heap_lt HA3.out
  clear hgrow3 hx3 hown3
  go_upto_region 6 with (go_at_call 23; refine (HRR.out _ _ HW3.out).mono ?_; rintro _ w4 ⟨p4, k4, rfl, ho4, hx4⟩)
  have HS4 := Lib.hid (SlC.owned ho4)
  have HW4 := Lib.hid (HW3.out.ext hx4)
  have HIN4 := Lib.hid (HIN3.out.ext hx4)
  have H74 := Lib.hid (hx4.cell H73.out)
  have HA4 := Lib.hid (HA3.out.ext hx4)
  have HX4 := Lib.hid (HX3.out.trans hx4)
  clear hx4 ho4 hl3 hf3 hc3 n3
  go_wp2_with fail
  go_loopw [8] (fun i wr => ∃ r : Nat, r ≤ 2 ∧ i = .int .i64 r ∧ Ext w4 wr) (fun i _ => 2 - (intOf i).toNat)
  case atStart => exact ⟨0, by omega, rfl, Ext.refl _⟩
  case round =>
    rename World => wr
    obtain ⟨r, hr, rfl, hx⟩ := hrel
    have hl5 := (HA4.out.ext hx).load
    have hf5 := (HA4.out.ext hx).first
    have hc5 := (HA4.out.ext hx).count
    have n5 := heap_lt (HA4.out.ext hx)
    by_cases hlt : r < 2
    · have hri : (r : Int) < 2 := by omega
      have HIN5 := Lib.hid (HIN4.out.ext hx)
      have HXR := Lib.hid hx
      clear hx
      go_upto_region 10 with (go_at_call 22; refine (HRW.out _ _ HIN5.out).mono ?_; rintro _ w6 ⟨p6, k6, rfl, ho6, hx6⟩)
      have HX6 := Lib.hid (HXR.out.trans hx6)
      have HO6 := Lib.hid ho6
      have hwr := hx6.size
      have hw4 := HXR.out.size
      clear hx6 ho6 hl5 hf5 hc5 n5
      rcases HO6.out.2 with ⟨hnil, hN0⟩ | ⟨g, cap, cur, hsl, hgb, hgc, hn1, hn2, hcs, htk⟩
      · cases hnil
        clear hN0
        go_wp2_with fail
        go_loopw [58] (fun i wq => i = .int .i64 0 ∧ Ext w4 wq) (fun i _ => 0)
        case atStart => exact ⟨rfl, HX6.out⟩
        case round =>
          rename World => wq
          obtain ⟨rfl, hxq⟩ := hrel
          go_wp2_with fail
          go_roundw
          case rel => exact ⟨r + 1, by omega, by go_num, hxq⟩
          case measure => simp [intOf]; omega
      · cases hsl
        obtain ⟨L0, hL0⟩ : ∃ L0, cur = L0.toArray := ⟨cur.toList, rfl⟩
        subst hL0
        have HGC := Lib.hid hgc
        have HTK := Lib.hid htk
        have hcs' : L0.length = k6 * 4 := by simpa using hcs
        go_wp2_with fail
        go_loopw [58] (fun i wq => ∃ (k : Nat) (L : List Value), k ≤ N ∧ i = .int .i64 k ∧ wq.heap[g]? = some (.cells L.toArray 29 (0, 0)) ∧ L.length = k6 * 4 ∧ (∀ j, k * 4 ≤ j → L[j]? = L0[j]?) ∧ Ext w4 wq) (fun i _ => N - (intOf i).toNat)
        case atStart => exact ⟨0, L0, Nat.zero_le _, rfl, HGC.out, hcs', fun _ _ => rfl, HX6.out⟩
        case round =>
          rename World => wq
          obtain ⟨k, L, hk, rfl, hgq, hLl, hLj, hxq⟩ := hrel
          by_cases hlt2 : k < N
          · obtain ⟨v0, v1, v2, v3, hv⟩ := four (vxV_len ys a (f + k))
            have hsr := HS4.out.ext hxq
            obtain ⟨b4, off4, rfl, hb4, _⟩ := hsr.pos (by omega)
            have q1 := vec_load hsr k hlt2 hv
            have y1 := vec_load (hsr.ext (Ext.refl _).drew) k hlt2 hv
            have hrow : ∀ j u, [Value.int .i32 v0, .int .i32 v1, .int .i32 v2, .int .i32 v3][j]? = some u → L[k * 4 + j]? = some u := by
              intro j u hu
              have hj : j < 4 := (List.getElem?_eq_some_iff.1 hu).1
              rw [hLj _ (by omega)]
              have h1 := rowC_at ys a f N k j hlt2 hj
              rw [hv, ← HTK.out, List.getElem?_take, if_pos (by omega)] at h1
              have h2 : L0[k * 4 + j]? = (vC [v0, v1, v2, v3])[j]? := by simpa using h1
              rw [h2]
              exact hu
            have q0 := ldF_ok (w := wq) (T := 29) (off := k * 4) (cs := [.int .i32 v0, .int .i32 v1, .int .i32 v2, .int .i32 v3]) _ (rangeF hgq hrow) Try.underlying29 rfl info_vec
            have y0 := ldF_ok (w := wq.drew) (T := 29) (off := k * 4) (cs := [.int .i32 v0, .int .i32 v1, .int .i32 v2, .int .i32 v3]) _ (rangeF hgq hrow) Try.underlying29 rfl info_vec
            have hki : (k : Int) < (N : Int) := by omega
            obtain ⟨hst, hs2, hs3⟩ := stF_mid (w := wq.drew) 29 hgq (k * 4) [.int .i32 9, .int .i32 0, .int .i32 0, .int .i32 0] (by simp; omega) info_vec (by simp [Value.oneCell'])
            generalize hwx : wq.drew.setCells g (k * 4) [.int .i32 9, .int .i32 0, .int .i32 0, .int .i32 0] = wx at *
            have HS2 := Lib.hid hs2
            have HXX := Lib.hid ((hxq.trans (Ext.refl _).drew).chgTrans hs3 (by simp; omega))
            have HLJ := Lib.hid hLj
            have hcut : ∀ j, (k + 1) * 4 ≤ j → (L.take (k * 4) ++ [Value.int .i32 9, .int .i32 0, .int .i32 0, .int .i32 0] ++ L.drop (k * 4 + 4))[j]? = L0[j]? := by
              intro j hj
              rw [List.getElem?_append_right (by simp; omega), List.getElem?_drop, ← hLj j (by omega)]
              congr 1
              simp
              omega
            have HCUT := Lib.hid hcut
            have hlen2 : (L.take (k * 4) ++ [Value.int .i32 9, .int .i32 0, .int .i32 0, .int .i32 0] ++ L.drop (k * 4 + 4)).length = k6 * 4 := by simp; omega
            clear hs2 hs3 hcut hLj hrow hv hwx hsr hgq hxq
            go_upto_region 15 with fail
            go_region_held3 (fun w' => (@Classical.epsilon _ neF (LdF 29 (.pointer (some ⟨g, k * 4, none⟩)))).run Try.prog w' = .ok (.agg #[.int .i32 v0, .int .i32 v1, .int .i32 v2, .int .i32 v3]) w' ∧ (@Classical.epsilon _ neF (LdF 29 (.pointer (some ⟨b4, off4 + k * 4, none⟩)))).run Try.prog w' = .ok (.agg #[.int .i32 v0, .int .i32 v1, .int .i32 v2, .int .i32 v3]) w') (go_keep) (fail)
            all_goals
              go_wp2_with fail
              go_roundw
              case rel => exact ⟨k + 1, _, by omega, by go_num, HS2.out, hlen2, HCUT.out, HXX.out⟩
              case measure => simp [intOf]; omega
          · obtain rfl : k = N := by omega
            clear hlt2
            go_wp2_with fail
            go_roundw
            case rel => exact ⟨r + 1, by omega, by go_num, hxq⟩
            case measure => simp [intOf]; omega
    · obtain rfl : r = 2 := by omega
      have HIN5 := Lib.hid (HIN4.out.ext hx)
      have HW5 := Lib.hid (HW4.out.ext hx)
      have H75 := Lib.hid (hx.cell H74.out)
      have HXR := Lib.hid (HX4.out.trans hx)
      have HXF := Lib.hid hx
      clear hx
      have hbl : (ys.length : Int) + 1 ≤ (c : Int) := by omega
      have s1 : IntKind.i64.wrap ((ys.length : Int) + 1) = (ys.length : Int) + 1 := IntWalk.i64_in _ ⟨by omega, by omega⟩
      have s2 : ((ys.length : Int) + 1).toNat = ys.length + 1 := by omega
      have s3 : (ys.length : Int) < (ys.length : Int) + 1 := by omega
      have s4 : (0 : Int) ≤ (ys.length : Int) + 1 := by omega
      have s5 : ys.length < ys.length + 1 := by omega
      clear HRW HRR HSH
      cases ho : arrOk a
      · have HCK : Hid (∀ w, Calls Try.prog 24 #[.agg a.C.toArray] w fun e w' => e = .returned (.int .i64 2) ∧ Ext w w') := Lib.hid (fun w => by have := check_any a w; rw [ho] at this; exact this)
        have HCR : Hid (∀ w, Calls Try.prog 13 #[.agg a.C.toArray] w fun e w' => e = .returned (.bool false) ∧ Ext w w') := Lib.hid (fun w => by have := rright_any a w; rw [ho] at this; exact this)
        clear ho
        go_wp2_with (first | (go_at_call 24; refine (HCK.out _).mono ?_; rintro _ w9 ⟨rfl, hx9⟩; have HX9 := Lib.hid (HXR.out.trans hx9); have HIN9 := Lib.hid (HIN5.out.ext hx9); have HW9 := Lib.hid (HW5.out.ext hx9); have hl9 := (HA4.out.ext (HXF.out.trans hx9)).load; have h79 := hx9.cell H75.out; have n9 := heap_lt (HA4.out.ext (HXF.out.trans hx9)); clear hx9) | (go_at_call 25; refine (equal_any _ _ ys _ HIN9.out HW9.out).mono ?_; rintro _ _ ⟨rfl, rfl⟩) | (go_at_call 13; refine (HCR.out _).mono ?_; rintro _ w10 ⟨rfl, hx10⟩; have HX10 := Lib.hid (HX9.out.trans hx10)))
        go_ret
        exact ⟨rfl, HX10.out⟩
      · have HCK : Hid (∀ w, Calls Try.prog 24 #[.agg a.C.toArray] w fun e w' => e = .returned (.int .i64 0) ∧ Ext w w') := Lib.hid (fun w => by have := check_any a w; rw [ho] at this; exact this)
        have HCR : Hid (∀ w, Calls Try.prog 13 #[.agg a.C.toArray] w fun e w' => e = .returned (.bool true) ∧ Ext w w') := Lib.hid (fun w => by have := rright_any a w; rw [ho] at this; exact this)
        clear ho
        go_wp2_with (first | (go_at_call 24; refine (HCK.out _).mono ?_; rintro _ w9 ⟨rfl, hx9⟩; have HX9 := Lib.hid (HXR.out.trans hx9); have HIN9 := Lib.hid (HIN5.out.ext hx9); have HW9 := Lib.hid (HW5.out.ext hx9); have hl9 := (HA4.out.ext (HXF.out.trans hx9)).load; have h79 := hx9.cell H75.out; have n9 := heap_lt (HA4.out.ext (HXF.out.trans hx9)); clear hx9) | (go_at_call 25; refine (equal_any _ _ ys _ HIN9.out HW9.out).mono ?_; rintro _ _ ⟨rfl, rfl⟩) | (go_at_call 13; refine (HCR.out _).mono ?_; rintro _ w10 ⟨rfl, hx10⟩; have HX10 := Lib.hid (HX9.out.trans hx10)))
        go_ret
        exact ⟨rfl, HX10.out⟩
theorem rows_arg (W : World) (v0 v1 : Value) (h0 : ArgIs Try.prog W 22 v0) (h1 : ArgIs Try.prog W 58 v1) : Calls Try.prog 9 #[v0, v1] W fun e w' => e = .returned (.bool true) ∧ Ext W w' := by
  obtain ⟨zs, hz⟩ := h0.ints Try.underlying22 Try.underlying5 rfl rfl
  obtain ⟨a, f, n, rfl, _⟩ := from_arg h1
  exact rows_walk v0 zs a f n W hz.1
end Go.Proofs.Ytgbcngmciabpkaa
