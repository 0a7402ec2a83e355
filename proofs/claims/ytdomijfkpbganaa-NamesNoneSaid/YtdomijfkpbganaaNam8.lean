/- The contract of the document's Gen. Conditions: the theorem's own premises. -/
import Derived.Test.YtdomijfkpbganaaNam7
namespace Go.Proofs.Ytdomijfkpbganaa
open Go.RowKit
set_option linter.unusedVariables false

set_option maxHeartbeats 2000000 in
theorem rgen_any (st : List Int) (bd cnt : Int) (w : World) (hl : st.length = 65) : Calls Try.prog 24 #[.agg (rfCells st bd), .int .i64 cnt] w fun e w' => ∃ a c,
    e = .returned (.tuple #[.agg (rfCells (genR st cnt).2.2 bd), .slice a (genR st cnt).1.length c, .int .i64 (genR st cnt).2.1]) ∧ SlC w' (.slice a (genR st cnt).1.length c) 1 (genR st cnt).1.length (natV (genR st cnt).1) ∧ (∀ b, (Value.slice a (genR st cnt).1.length c).ownBlock = some b → w.heap.size ≤ b) ∧ Ext w w' := by
  obtain ⟨i0, hi, hz0, hz1, hz2⟩ := info_parts info_int
  have hz := zero_rf
  obtain ⟨wa, q, r, e1, e2, e3, hA, hB, hx, hqr⟩ := two_blocks st bd w hl
  have E1 := Lib.hid e1
  have E2 := Lib.hid e2
  have E3 := Lib.hid e3
  have hq : w.heap.size ≤ q := by omega
  have hr : w.heap.size ≤ r := by omega
  clear e1 e2 e3
  generalize rfCells (List.replicate 65 0) 0 = Z at *
  generalize hC : rfCells st bd = C at *
  have hAc := Lib.hid (show wa.heap[q]? = some (.cells C 42 (0, 0)) by rw [← hC]; exact hA.1)
  have hsC := Lib.hid (show (Try.prog.info? 42).map (·.size) = some C.size by rw [← hC]; exact hs_rf _ _ hl)
  have hzC := Lib.hid (show C.size = 66 by rw [← hC]; exact rfCells_size hl)
  have hoC := Lib.hid (show C.all (·.oneCell') = true by rw [← hC]; exact rfCells_one)
  have HC := Lib.hid hC
  clear hC
  by_cases hneg : cnt < 0
  · have HR := Lib.hid (show genR st cnt = ([], 2, st) by unfold genR; rw [if_pos hneg])
    have hA2 := Lib.hid hA
    have hB2 := Lib.hid hB
    have hx2 := Lib.hid hx
    go_enter Try.func24, Try.ntmps24
    clear hA hB hx
    go_wp2_with (first | ((first | rw [E1.out, E3.out, E2.out] | skip); refine wpList_load_whole rfl 42 _ rfl q rfl C 42 hAc.out _ Try.underlying42 rfl hsC.out ?_) | (refine wpList_store_whole rfl 42 _ _ rfl r C rfl rfl _ 42 ((Ext.refl _).heap hB2.out.1) (hzC.out.trans (rfCells_size rfl).symm) hsC.out hoC.out ?_; intro w2 hw2 hc2))
    have hload := run_loadVar_whole (P := Try.prog) 42 _ hw2 Try.underlying42 rfl hsC.out
    rw [HR.out]
    exact bodyPost_ret (results_cell3 rfl _ _ _ _ rfl hload) rfl ⟨none, 0, by rw [← HC.out]; rfl, SlC.nil _ _, (by intro b hb; cases hb), hx2.out.chgTrans hc2 (by simpa using hr)⟩
  · by_cases hfull : ((freeL st 64).length : Int) < cnt
    · have HR := Lib.hid (show genR st cnt = ([], 6, st) by unfold genR; rw [if_neg hneg, if_pos hfull])
      have hA2 := Lib.hid hA
      have hB2 := Lib.hid hB
      have hx2 := Lib.hid hx
      go_enter Try.func24, Try.ntmps24
      clear hA hB hx
      go_wp2_with (first | (go_at_call 27; rw [← HC.out]; refine (rleft_any _ _ _ hl).mono ?_; rintro e w1 ⟨rfl, hx1⟩; rw [HC.out]) | ((first | rw [E1.out, E3.out, E2.out] | skip); refine wpList_load_whole rfl 42 _ rfl q rfl C 42 hAc.out _ Try.underlying42 rfl hsC.out ?_) | (refine wpList_load_whole rfl 42 _ rfl q rfl C 42 (hx1.heap hAc.out) _ Try.underlying42 rfl hsC.out ?_) | (refine wpList_store_whole rfl 42 _ _ rfl r C rfl rfl _ 42 (hx1.heap hB2.out.1) (hzC.out.trans (rfCells_size rfl).symm) hsC.out hoC.out ?_; intro w2 hw2 hc2))
      have hload := run_loadVar_whole (P := Try.prog) 42 _ hw2 Try.underlying42 rfl hsC.out
      rw [HR.out]
      exact bodyPost_ret (results_cell3 rfl _ _ _ _ rfl hload) rfl ⟨none, 0, by rw [← HC.out]; rfl, SlC.nil _ _, (by intro b hb; cases hb), (hx2.out.trans hx1).chgTrans hc2 (by simpa using hr)⟩
    · obtain ⟨n, rfl⟩ := Int.eq_ofNat_of_zero_le (show 0 ≤ cnt by omega)
      have hn : n ≤ (freeL st 64).length := by omega
      have hn64 : n ≤ 64 := Nat.le_trans hn (freeL_length st 64)
      have hR : Hid (genR st (n : Int) = ((freeL st 64).take n, 0, markL st ((freeL st 64).take n))) := by show _ = _; unfold genR; rw [if_neg hneg, if_neg hfull]; rfl
      have hle : (n : Int) ≤ ((freeL st 64).length : Int) := by omega
      clear hneg hfull
      have hA2 := Lib.hid hA
      have hB2 := Lib.hid hB
      have hx2 := Lib.hid hx
      clear hA hB hx
      go_enter Try.func24, Try.ntmps24
      go_wp2_with (first | (go_at_call 27; rw [← HC.out]; refine (rleft_any _ _ _ hl).mono ?_; rintro e w1 ⟨rfl, hx1⟩; rw [HC.out]) | ((first | rw [E1.out, E3.out, E2.out] | skip); refine wpList_load_whole rfl 42 _ rfl q rfl C 42 hAc.out _ Try.underlying42 rfl hsC.out ?_))
      have hA3 := hA2.out.ext hx1
      have hB3 := hB2.out.ext hx1
      have hx3 := hx2.out.trans hx1
      have hqs := hA3.lt
      have hrs := hB3.lt
      generalize decide ((freeL st 64).length < n) = b0
      go_loopw [7, 8] (fun o i wr => ∃ m : Nat, m ≤ 64 ∧ i = .int .i64 ((m : Int) + 1) ∧ wr.ownsRow w1.heap.size 3 1 o (freeL st m).length (natV (freeL st m)) ∧ (freeL st m).length ≤ n ∧ RfAt wr q (markL st (freeL st m)) bd ∧ Chg [q] w1 wr) (fun _ i _ => (65 - intOf i).toNat)
      case atStart => exact ⟨0, Nat.zero_le _, rfl, World.ownsRow_nil _ _ _ _, Nat.zero_le _, hA3, Chg.refl _ _⟩
      case round =>
        obtain ⟨m, hm, rfl, hown, hln, hnm, hx⟩ := hrel
        obtain ⟨a, c, rfl⟩ := owns_slice hown
        obtain ⟨rr, hrr⟩ := freeL_prefix st m 64 hm
        by_cases hlt : (freeL st m).length = n
        · have hout : Hid ((freeL st 64).take n = freeL st m) := by show _ = _; rw [hrr, ← hlt, List.take_left']; rfl
          have hB4 := Lib.hid (hB3.chg hx (by simpa using fun e => hqr e.symm))
          have hN := Lib.hid hnm
          have hX := Lib.hid (hx3.chgTrans hx (by simpa using hq))
          have hO := Lib.hid (SlC.owned hown)
          have hrow := hown.lt
          have hHR := Lib.hid (hR.out.trans (by rw [hout.out] : _ = (freeL st m, (0 : Int), markL st (freeL st m))))
          generalize hst : markL st (freeL st m) = s2 at *
          clear hst hrr hown hln hx hA3 hB3 hx3 hR hout
          generalize freeL st m = F at *
          have hFl := Lib.hid hlt
          rw [hlt] at hO hrow
          rw [hlt]
          clear hlt
          have hsz : s2.length = 65 := hN.out.2
          clear hnm
          generalize hD : rfCells s2 bd = D at *
          have hAd := Lib.hid (show wr.heap[q]? = some (.cells D 42 (0, 0)) by rw [← hD]; exact hN.out.1)
          have hsD := Lib.hid (show (Try.prog.info? 42).map (·.size) = some D.size by rw [← hD]; exact hs_rf _ _ hsz)
          have hzD := Lib.hid (show D.size = 66 by rw [← hD]; exact rfCells_size hsz)
          have hoD := Lib.hid (show D.all (·.oneCell') = true by rw [← hD]; exact rfCells_one)
          have HD := Lib.hid hD
          clear hD
          have fin : ∀ w2 : World, Chg [r] wr w2 → Hid (∃ a' c', Ending.returned (.tuple #[.agg D, .slice a n c, .int .i64 0]) = Ending.returned (.tuple #[.agg (rfCells (genR st (n : Int)).2.2 bd), .slice a' (genR st (n : Int)).1.length c', .int .i64 (genR st (n : Int)).2.1]) ∧ SlC w2 (.slice a' (genR st (n : Int)).1.length c') 1 (genR st (n : Int)).1.length (natV (genR st (n : Int)).1) ∧ (∀ b, (Value.slice a' (genR st (n : Int)).1.length c').ownBlock = some b → w.heap.size ≤ b) ∧ Ext w w2) := fun w2 hc2 => by
            show ∃ a' c', _
            rw [hHR.out]
            refine ⟨a, c, ?_, ?_, (fun b hb => ?_), hX.out.chgTrans hc2 (by simpa using hr)⟩
            · rw [← HD.out, ← hFl.out]
            · have := hO.out.chg hc2 (fun b hb h0 hm => by have h1 := (hrow b hb).1; have h2 := hrs; have h3 : b = r := (by simpa using hm); omega)
              rw [← hFl.out] at this
              exact this
            · have h1 := (hrow b (by rw [← hFl.out]; exact hb)).1
              have h2 := hqs
              omega
          by_cases hm64 : m = 64
          · subst hm64
            go_wp2_with (first | (refine wpList_load_whole rfl 42 _ rfl q rfl D 42 hAd.out _ Try.underlying42 rfl hsD.out ?_) | (refine wpList_store_whole rfl 42 _ _ rfl r D rfl rfl _ 42 hB4.out.1 (hzD.out.trans (rfCells_size rfl).symm) hsD.out hoD.out ?_; intro w2 hw2 hc2))
            have hload := run_loadVar_whole (P := Try.prog) 42 _ hw2 Try.underlying42 rfl hsD.out
            refine bodyPost_ret (results_cell3 rfl _ _ _ _ rfl hload) rfl ?_
            exact (fin _ hc2).out
          · have hm1 : (m : Int) < 64 := by omega
            go_wp2_with (first | (refine wpList_load_whole rfl 42 _ rfl q rfl D 42 hAd.out _ Try.underlying42 rfl hsD.out ?_) | (refine wpList_store_whole rfl 42 _ _ rfl r D rfl rfl _ 42 hB4.out.1 (hzD.out.trans (rfCells_size rfl).symm) hsD.out hoD.out ?_; intro w2 hw2 hc2))
            have hload := run_loadVar_whole (P := Try.prog) 42 _ hw2 Try.underlying42 rfl hsD.out
            refine bodyPost_ret (results_cell3 rfl _ _ _ _ rfl hload) rfl ?_
            exact (fin _ hc2).out
        · have hm64 : m < 64 := by
            rcases Nat.lt_or_ge m 64 with h | h
            · exact h
            · have : m = 64 := by omega
              subst this
              omega
          have hlt2 : ((freeL st m).length : Int) < (n : Int) := by omega
          have hs := Lib.hid (freeL_succ st m)
          have e1 : (m : Int) + 1 = ((m + 1 : Nat) : Int) := by omega
          rw [e1]
          have hcell := hnm.cell (m + 1) (by omega)
          have hfz := hnm.free (m + 1)
          rw [markL_getD _ _ _ (by rw [freeL_mem]; omega)] at hcell
          have hlt1 : ((m + 1 : Nat) : Int) < 65 := by omega
          have hlt3 : ((m + 1 : Nat) : Int) ≤ 64 := by omega
          have hqr2 := hx.size
          clear e1 hrr hlt
          by_cases hx0 : st.getD (m + 1) 0 = 0
          · have hx' : (st.getD (m + 1) 0 == 0) = true := by simpa using hx0
            have HX := Lib.hid hx'
            have HNM := Lib.hid hnm
            rw [hx0] at hcell
            clear hx0 hx' hnm hn hle
            generalize hfl : freeL st m = G at *
            have HF := Lib.hid hfl; clear hfl
            have hown1 : (wr.setCell ⟨q, m + 1, none⟩ (.int .i64 1)).ownsRow w1.heap.size 3 1 (.slice a G.length c) G.length (natV G) := ownsRow_setCell_below hown hqs _
            go_wp2_with (at_builtin; refine wpList_append_own _ rfl _ _ 30 rfl w1.heap.size 3 i0 (.int .i64 0) 1 8 Try.underlying30 hi hz0 hz1 hz2 rfl (by decide) _ _ _ rfl (hown1.alloc _) ⟨wr.heap.size, 0, none⟩ 1 1 [.int .i64 ((m + 1 : Nat) : Int)] rfl rfl ?c1 ?c2 ?c3 ?c4 ?c5 ?_)
            case c1 => have := cell_one_new (wr.setCell ⟨q, m + 1, none⟩ (.int .i64 1)) (.int .i64 ((m + 1 : Nat) : Int)) 3; simpa using this
            case c2 => intro u hu; simp at hu; subst hu; rfl
            case c3 => unfold maxLen; omega
            case c4 => omega
            case c5 => simp; omega
            intro v' w2 hown' hgrow _
            have hrow := (hown1.alloc (.cells #[.int .i64 ((m + 1 : Nat) : Int)] 3)).lt
            have hx2' : Chg [q] w1 w2 := ((hx.setCell (by simp) _).alloc _).grown hgrow (fun j hj => (hrow j hj).1)
            have hnm1 := HNM.out.setState (m + 1) (by omega) 1
            have hnm2 : RfAt w2 q (markL st (freeL st (m + 1))) bd := by
              rw [hs.out, if_pos HX.out, markL_append]
              exact ⟨grown_heap hgrow (((Ext.refl _).alloc _).heap hnm1.1) (fun j hj => by have := (hrow j hj).1; omega), hnm1.2⟩
            have hown2 : w2.ownsRow w1.heap.size 3 1 v' (freeL st (m + 1)).length (natV (freeL st (m + 1))) := by
              rw [hs.out, if_pos HX.out]
              simpa [natV] using hown'
            have hl2 : (freeL st (m + 1)).length ≤ n := by
              rw [hs.out, if_pos HX.out]
              simp; omega
            clear hown' hgrow hown hown1 hnm1
            go_wp2_with fail
            go_roundw
            case rel => exact ⟨m + 1, by omega, by go_num, hown2, hl2, hnm2, hx2'⟩
            case measure => simp [intOf]; omega
          · have hx' : (st.getD (m + 1) 0 == 0) = false := by simpa using hx0
            have HX := Lib.hid hx'
            generalize st.getD (m + 1) 0 = x at *
            go_wp2_with fail
            go_roundw
            case rel => exact ⟨m + 1, by omega, by go_num, by rw [hs.out, HX.out]; simpa using hown, by rw [hs.out, HX.out]; simpa using hln, by rw [hs.out, HX.out]; simpa using hnm, hx⟩
            case measure => simp [intOf]; omega

end Go.Proofs.Ytdomijfkpbganaa
