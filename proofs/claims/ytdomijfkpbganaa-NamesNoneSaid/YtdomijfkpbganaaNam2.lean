/- The contract of names' Gen. Conditions: the theorem's own premises. -/
import Derived.Test.YtdomijfkpbganaaNam1
namespace Go.Proofs.Ytdomijfkpbganaa
open Go.RowKit
set_option linter.unusedVariables false

/-- These are given. -/
def markL (st : List Int) (l : List Nat) : List Int := l.foldl (fun s k => s.set k 1) st
theorem markL_length (l : List Nat) : ∀ st, (markL st l).length = st.length := by
  induction l with
  | nil => intro st; rfl
  | cons k l ih => intro st; rw [markL, List.foldl_cons]; exact (ih _).trans (by simp)
theorem markL_append (st : List Int) (l r : List Nat) : markL st (l ++ r) = markL (markL st l) r := by simp [markL, List.foldl_append]
theorem markL_getD (l : List Nat) : ∀ (st : List Int) (k : Nat), k ∉ l → (markL st l).getD k 0 = st.getD k 0 := by
  induction l with
  | nil => intro st k _; rfl
  | cons j l ih =>
    intro st k h
    simp only [List.mem_cons, not_or] at h
    rw [markL, List.foldl_cons]
    refine (ih _ k h.2).trans ?_
    rw [List.getD_eq_getElem?_getD, List.getD_eq_getElem?_getD, List.getElem?_set_ne (fun e => h.1 e.symm)]
theorem markL_mem (l : List Nat) : ∀ (st : List Int) (k : Nat), k ∈ l → k < st.length → (markL st l).getD k 0 = 1 := by
  induction l with
  | nil => intro st k h; cases h
  | cons j l ih =>
    intro st k h hk
    rw [markL, List.foldl_cons]
    by_cases hm : k ∈ l
    · exact ih _ k hm (by simpa using hk)
    · have : k = j := by simpa [hm] using h
      subst this
      refine (markL_getD l _ k hm).trans ?_
      rw [List.getD_eq_getElem?_getD, List.getElem?_set_self (by simpa using hk)]
      rfl
theorem freeL_mem (st : List Int) (n k : Nat) : k ∈ freeL st n ↔ 1 ≤ k ∧ k ≤ n ∧ st.getD k 0 = 0 := by
  unfold freeL
  rw [List.mem_filter, List.mem_range'_1]
  simp
  omega
theorem freeL_prefix (st : List Int) (m : Nat) : ∀ n, m ≤ n → ∃ r, freeL st n = freeL st m ++ r
  | 0, h => by
    have : m = 0 := by omega
    subst this
    exact ⟨[], by simp⟩
  | n + 1, h => by
    rcases Nat.lt_or_ge n m with h' | h'
    · have : m = n + 1 := by omega
      subst this
      exact ⟨[], by simp⟩
    · obtain ⟨r, hr⟩ := freeL_prefix st m n h'
      exact ⟨r ++ _, by rw [freeL_succ, hr, List.append_assoc]⟩

/-- What owns a row is a slice. -/
theorem owns_slice {w : World} {base : Nat} {e : TypeId} {size : Nat} {v : Value} {n : Nat} {xs : List Value} (h : w.ownsRow base e size v n xs) : ∃ a cap, v = .slice a n cap := by
  rcases h.2 with ⟨rfl, rfl⟩ | ⟨g, cap, cur, rfl, _⟩
  · exact ⟨_, _, rfl⟩
  · exact ⟨_, _, rfl⟩

/-- What Gen does. -/
def genR (st : List Int) (cnt : Int) : List Nat × Int × List Int :=
  if cnt < 0 then ([], 2, st) else if ((freeL st 64).length : Int) < cnt then ([], 6, st) else ((freeL st 64).take cnt.toNat, 0, markL st ((freeL st 64).take cnt.toNat))

theorem info_int : (Try.prog.info? 3).map (fun i => (i.zero, i.size, i.bytes)) = some (some (.int .i64 0), 1, 8) := by kernel_rfl

/-- Natural numbers as Go's ints. -/
def natV (l : List Nat) : List Value := l.map fun (k : Nat) => Value.int .i64 (k : Int)

theorem gen_nil (cnt : Int) (w : World) : Calls Try.prog 12 #[.pointer none, .int .i64 cnt] w fun e w' => e = .returned (.tuple #[.slice none 0 0, .int .i64 1]) ∧ w = w' := by
  go_enter Try.func12, Try.ntmps12
  go_wp2_with fail
  go_step3
  go_wp2
  rw [Exit.noGoto_ret]
  go_ret2
  exact ⟨rfl, rfl⟩

set_option maxHeartbeats 2000000 in
theorem gen_any (p : Nat) (st : List Int) (bd cnt : Int) (w : World) (h : NmAt w p st bd) : Calls Try.prog 12 #[.pointer (some ⟨p, 0, none⟩), .int .i64 cnt] w fun e w' => ∃ a c,
    e = .returned (.tuple #[.slice a (genR st cnt).1.length c, .int .i64 (genR st cnt).2.1]) ∧ w'.ownsRow w.heap.size 3 1 (.slice a (genR st cnt).1.length c) (genR st cnt).1.length (natV (genR st cnt).1) ∧ NmAt w' p (genR st cnt).2.2 bd ∧ Chg [p] w w' := by
  obtain ⟨i0, hi, hz0, hz1, hz2⟩ := info_parts info_int
  by_cases hneg : cnt < 0
  · have hR : Hid (genR st cnt = ([], 2, st)) := by show _ = _; unfold genR; rw [if_pos hneg]
    go_enter Try.func12, Try.ntmps12
    go_wp2_with fail
    go_step3
    go_wp2
    rw [Exit.noGoto_ret]
    go_ret2
    rw [hR.out]
    exact ⟨none, 0, rfl, World.ownsRow_nil _ _ _ _, h, Chg.refl _ _⟩
  · by_cases hfull : ((freeL st 64).length : Int) < cnt
    · have hR : Hid (genR st cnt = ([], 6, st)) := by show _ = _; unfold genR; rw [if_neg hneg, if_pos hfull]
      go_enter Try.func12, Try.ntmps12
      go_wp2_with fail
      go_step3
      go_wp2_with (go_at_call 16; refine (left_any p st bd _ h).mono ?_; rintro e w1 ⟨rfl, rfl⟩)
      rw [Exit.noGoto_ret]
      go_ret2
      rw [hR.out]
      exact ⟨none, 0, rfl, World.ownsRow_nil _ _ _ _, h, Chg.refl _ _⟩
    · obtain ⟨n, rfl⟩ := Int.eq_ofNat_of_zero_le (show 0 ≤ cnt by omega)
      have hn : n ≤ (freeL st 64).length := by omega
      have hn64 : n ≤ 64 := Nat.le_trans hn (freeL_length st 64)
      have hR : Hid (genR st (n : Int) = ((freeL st 64).take n, 0, markL st ((freeL st 64).take n))) := by show _ = _; unfold genR; rw [if_neg hneg, if_neg hfull]; rfl
      have hle : (n : Int) ≤ ((freeL st 64).length : Int) := by omega
      clear hneg hfull
      go_enter Try.func12, Try.ntmps12
      go_wp2_with fail
      go_step3
      go_wp2_with (go_at_call 16; refine (left_any p st bd _ h).mono ?_; rintro e w1 ⟨rfl, rfl⟩)
      go_step3
      go_wp2_with fail
      generalize decide ((freeL st 64).length < n) = b0
      go_loopw [6, 7] (fun o i wr => ∃ m : Nat, m ≤ 64 ∧ i = .int .i64 ((m : Int) + 1) ∧ wr.ownsRow w.heap.size 3 1 o (freeL st m).length (natV (freeL st m)) ∧ (freeL st m).length ≤ n ∧ NmAt wr p (markL st (freeL st m)) bd ∧ Chg [p] w wr) (fun _ i _ => (65 - intOf i).toNat)
      case atStart => exact ⟨0, Nat.zero_le _, rfl, World.ownsRow_nil _ _ _ _, Nat.zero_le _, h, Chg.refl _ _⟩
      case round =>
        obtain ⟨m, hm, rfl, hown, hln, hnm, hx⟩ := hrel
        obtain ⟨a, c, rfl⟩ := owns_slice hown
        obtain ⟨r, hr⟩ := freeL_prefix st m 64 hm
        by_cases hlt : (freeL st m).length = n
        · have hout : Hid ((freeL st 64).take n = freeL st m) := by show _ = _; rw [hr, ← hlt, List.take_left']; rfl
          have hlt' : (((freeL st m).length : Int) == (n : Int)) = true := by simp [hlt]
          clear hr hlt
          go_wp2_with fail
          rw [Exit.noGoto_ret]
          go_ret2
          rw [hR.out, hout.out]
          exact ⟨a, c, rfl, hown, hnm, hx⟩
        · have hlt' : (((freeL st m).length : Int) == (n : Int)) = false := by simp; omega
          have hm64 : m < 64 := by
            rcases Nat.lt_or_ge m 64 with h | h
            · exact h
            · have : m = 64 := by omega
              subst this
              omega
          have hs := Lib.hid (freeL_succ st m)
          have e1 : (m : Int) + 1 = ((m + 1 : Nat) : Int) := by omega
          rw [e1]
          have hcell := hnm.cell (m + 1) (by omega)
          have hfz := hnm.free (m + 1)
          rw [markL_getD _ _ _ (by rw [freeL_mem]; omega)] at hcell
          have hlt1 : ((m + 1 : Nat) : Int) < 65 := by omega
          clear e1 hr
          by_cases hx0 : st.getD (m + 1) 0 = 0
          · have hx' : (st.getD (m + 1) 0 == 0) = true := by simpa using hx0
            have HX := Lib.hid hx'
            have HNM := Lib.hid hnm
            rw [hx0] at hcell
            clear hx0 hx' hnm hn hle
            generalize hfl : freeL st m = F at *
            have HF := Lib.hid hfl; clear hfl
            have hown1 : (wr.setCell ⟨p, m + 1, none⟩ (.int .u8 1)).ownsRow w.heap.size 3 1 (.slice a F.length c) F.length (natV F) := ownsRow_setCell_below hown h.lt _
            go_wp2_with (at_builtin; refine wpList_append_own _ rfl _ _ 30 rfl w.heap.size 3 i0 (.int .i64 0) 1 8 Try.underlying30 hi hz0 hz1 hz2 rfl (by decide) _ _ _ rfl (hown1.alloc _) ⟨wr.heap.size, 0, none⟩ 1 1 [.int .i64 ((m + 1 : Nat) : Int)] rfl rfl ?c1 ?c2 ?c3 ?c4 ?c5 ?_)
            case c1 => have := cell_one_new (wr.setCell ⟨p, m + 1, none⟩ (.int .u8 1)) (.int .i64 ((m + 1 : Nat) : Int)) 3; simpa using this
            case c2 => intro u hu; simp at hu; subst hu; rfl
            case c3 => unfold maxLen; omega
            case c4 => omega
            case c5 => have := hx.size; simp; omega
            intro v' w2 hown' hgrow _
            have hrow := (hown1.alloc (.cells #[.int .i64 ((m + 1 : Nat) : Int)] 3)).lt
            have hx2 : Chg [p] w w2 := ((hx.setCell (by simp) _).alloc _).grown hgrow (fun j hj => (hrow j hj).1)
            have hnm1 := HNM.out.setState (m + 1) (by omega) 1
            have hnm2 : NmAt w2 p (markL st (freeL st (m + 1))) bd := by
              rw [hs.out, if_pos HX.out, markL_append]
              exact ⟨grown_heap hgrow (((Ext.refl _).alloc _).heap hnm1.1) (fun j hj => by have := (hrow j hj).1; have := h.lt; omega), hnm1.2⟩
            have hown2 : w2.ownsRow w.heap.size 3 1 v' (freeL st (m + 1)).length (natV (freeL st (m + 1))) := by
              rw [hs.out, if_pos HX.out]
              simpa [natV] using hown'
            have hl2 : (freeL st (m + 1)).length ≤ n := by
              rw [hs.out, if_pos HX.out]
              simp; omega
            clear hown' hgrow hown hown1 hnm1
            go_wp2_with fail
            go_roundw
            case rel => exact ⟨m + 1, by omega, by go_num, hown2, hl2, hnm2, hx2⟩
            case measure => simp [intOf]; omega
          · have hx' : (st.getD (m + 1) 0 == 0) = false := by simpa using hx0
            have HX := Lib.hid hx'
            generalize st.getD (m + 1) 0 = x at *
            go_wp2_with fail
            go_roundw
            case rel => exact ⟨m + 1, by omega, by go_num, by rw [hs.out, HX.out]; simpa using hown, by rw [hs.out, HX.out]; simpa using hln, by rw [hs.out, HX.out]; simpa using hnm, hx⟩
            case measure => simp [intOf]; omega

end Go.Proofs.Ytdomijfkpbganaa
