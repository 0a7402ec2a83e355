/- The law's does at every op, and its agree. Conditions: each theorem's own premises. -/
import Derived.Test.YtdomijfkpbganaaNam10
namespace Go.Proofs.Ytdomijfkpbganaa
open Go.RowKit
set_option linter.unusedVariables false

/-- What an op does to the names. -/
def opR (st : List Int) (bd : Int) (o : Int × Int) : List Int × Int :=
  if kindR o.1 = 0 then ((genR st o.2).2.2, bd) else if kindR o.1 = 1 then (bindR st bd o.2).2.2 else (delR st bd o.2).2.2
theorem kindR_three (k : Int) : kindR k = 0 ∨ kindR k = 1 ∨ kindR k = 2 := by unfold kindR; split <;> (try split) <;> simp
theorem does_any (p q : Nat) (st : List Int) (bd k N : Int) (w : World) (h : NmAt w p st bd) (hr : RfAt w q st bd) (hpq : p ≠ q) : Calls Try.prog 19 #[.pointer (some ⟨p, 0, none⟩), .pointer (some ⟨q, 0, none⟩), .agg #[.int .i64 k, .int .i64 N]] w fun e w' =>
    e = .returned (.bool true) ∧ NmAt w' p (opR st bd (k, N)).1 (opR st bd (k, N)).2 ∧ RfAt w' q (opR st bd (k, N)).1 (opR st bd (k, N)).2 ∧ Chg [p, q] w w' := by
  rcases kindR_three k with hk | hk | hk
  · have : opR st bd (k, N) = ((genR st N).2.2, bd) := by unfold opR; rw [if_pos hk]
    rw [this]
    exact does0 p q st bd k N w h hr hpq hk
  · have : opR st bd (k, N) = (bindR st bd N).2.2 := by unfold opR; rw [if_neg (by show ¬ kindR k = 0; rw [hk]; decide), if_pos hk]
    rw [this]
    exact does1 p q st bd k N w h hr hpq hk
  · have : opR st bd (k, N) = (delR st bd N).2.2 := by unfold opR; rw [if_neg (by show ¬ kindR k = 0; rw [hk]; decide), if_neg (by show ¬ kindR k = 1; rw [hk]; decide)]
    rw [this]
    exact does2 p q st bd k N w h hr hpq hk

/-- No state is less than 0. -/
def NN (st : List Int) : Prop := ∀ x ∈ st, 0 ≤ x
theorem NN.set {st : List Int} (h : NN st) (i : Nat) (x : Int) (hx : 0 ≤ x) : NN (st.set i x) := fun y hy => by
  rcases List.mem_or_eq_of_mem_set hy with hm | rfl
  · exact h y hm
  · exact hx
theorem NN.mark (l : List Nat) : ∀ {st : List Int}, NN st → NN (markL st l) := by
  induction l with
  | nil => intro st h; exact h
  | cons k l ih => intro st h; exact ih (h.set k 1 (by decide))
theorem NN.op {st : List Int} (h : NN st) (bd : Int) (o : Int × Int) : NN (opR st bd o).1 := by
  unfold opR genR bindR delR
  repeat' split
  all_goals first | exact h | exact h.mark _ | exact h.set _ _ (by decide)
theorem NN.zero : NN (List.replicate 65 0) := fun x hx => by
  have := (List.mem_replicate.1 hx).2
  omega
theorem NN.at {st : List Int} (h : NN st) (i : Int) : 0 ≤ stOf st i := by
  unfold stOf
  split
  · rw [List.getD_eq_getElem?_getD]
    cases hq : st[i.toNat]? with
    | none => simp
    | some x => exact h x (List.mem_of_getElem? hq)
  · simp
theorem stOf_out (st : List Int) (i : Int) (h : isName i = false) : stOf st i = 0 := by unfold stOf; rw [h]; rfl
theorem stOf_in (st : List Int) (j : Nat) (h1 : 1 ≤ j) (h2 : j ≤ 64) : stOf st (j : Int) = st.getD j 0 := by
  unfold stOf
  rw [if_pos (by simp [isName]; omega)]
  rfl

theorem bne_pos {x : Int} (h : 0 ≤ x) : (x != 0) = decide (0 < x) := by
  by_cases h0 : x = 0
  · subst h0; rfl
  · have h1 : 0 < x := by omega
    rw [decide_eq_true h1]
    simpa using h0

attribute [local go_sem ↓] Go.wp_at_zero Go.wp_at_succ LdW_fold StW_fold

set_option maxHeartbeats 1000000 in
theorem agree_any (p : Nat) (st : List Int) (bd : Int) (w : World) (h : NmAt w p st bd) (hnn : NN st) : Calls Try.prog 21 #[.pointer (some ⟨p, 0, none⟩), .agg (rfCells st bd)] w fun e w' => e = .returned (.bool true) ∧ Ext w w' := by
  have hl := h.2
  have hq : RfAt (w.alloc (.cells (rfCells st bd) 42)) w.heap.size st bd := ⟨heap_alloc_new _ _, hl⟩
  have hld := LdW_ok hq.drew
  have hbd := hq.bound
  have hbd2 := hq.drew.bound
  have HQ := Lib.hid hq
  have HL := Lib.hid hl
  generalize hC : rfCells st bd = C at *
  have hx1 := (Ext.refl w).alloc (.cells C 42)
  have h1 := h.ext hx1
  have hlp := h.lt
  have HC := Lib.hid hC
  have H1 := Lib.hid (h1.ext (Ext.refl _).drew)
  clear hC hq h hl h1
  go_enter Try.func21, Try.ntmps21
  go_wp2_with fail
  go_region_with (first | (go_at_call 18; refine (bound_any p _ _ _ H1.out).mono ?_; rintro e w2 ⟨rfl, rfl⟩) | (go_at_call 16; refine (left_any p _ _ _ H1.out).mono ?_; rintro e w2 ⟨rfl, rfl⟩) | (go_at_call 27; rw [← HC.out]; refine (rleft_any _ _ _ HL.out).mono ?_; rintro e w3 ⟨rfl, hx3⟩; rw [HC.out] at hx3 ⊢))
  all_goals have h3 := H1.out.ext hx3
  all_goals have hq3 := HQ.out.drew.ext hx3
  all_goals have hx4 := Lib.hid ((hx1.trans (Ext.refl _).drew).trans hx3)
  all_goals have hqs := hq3.lt
  all_goals clear hld hbd hbd2 HQ H1 hx1 hx3
  all_goals generalize w.heap.size = q at *
  all_goals go_wp2_with fail
  all_goals (
    go_loop [5] (fun i => ∃ m : Nat, m ≤ 67 ∧ i = .int .i64 ((m : Int) - 1)) (fun i => (67 - (intOf i + 1)).toNat)
    case atStart => exact ⟨0, Nat.zero_le _, rfl⟩
    case round =>
      obtain ⟨m, hm, rfl⟩ := hrel
      by_cases hend : m = 67
      · subst hend
        go_wp2_with fail
        go_ret
        exact ⟨rfl, hx4.out⟩
      · by_cases hin : 2 ≤ m ∧ m ≤ 65
        · obtain ⟨j, rfl⟩ : ∃ j, m = j + 1 := ⟨m - 1, by omega⟩
          have hj : (((j + 1 : Nat) : Int) - 1) = (j : Int) := by omega
          rw [hj]
          have hs := Lib.hid (stOf_in st j (by omega) (by omega))
          have hcell := hq3.cell j (by omega)
          have hn0 := hnn.at (j : Int)
          rw [hs.out] at hn0
          have hj1 : (1 : Int) ≤ (j : Int) := by omega
          have hj2 : (j : Int) ≤ 64 := by omega
          have hj3 : (j : Int) < 65 := by omega
          have hj4 : (j : Int) ≤ 65 := by omega
          have hj5 : (0 : Int) ≤ (j : Int) := by omega
          have his := Lib.hid (is_any p st bd (j : Int) w3 h3)
          have hus := Lib.hid (used_any p st bd (j : Int) w3 h3)
          rw [hs.out] at his hus
          have hg0 := bne_pos hn0
          rw [hg0] at hus
          generalize st.getD j 0 = x at *
          clear hg0 hn0 hj hin hend hm
          go_wp2_with (first | (go_at_call 17; refine his.out.mono ?_; rintro e w5 ⟨rfl, rfl⟩) | (go_at_call 15; refine hus.out.mono ?_; rintro e w5 ⟨rfl, rfl⟩))
          go_round
          case rel => exact ⟨j + 2, by omega, by go_num⟩
          case measure => simp [intOf]; omega
        · have hs : isName ((m : Int) - 1) = false := by
            unfold isName
            by_cases h1 : (1 : Int) ≤ (m : Int) - 1
            · have h2 : ¬ ((m : Int) - 1 ≤ 64) := by omega
              simp [h2]
            · simp [h1]
          have his := Lib.hid (is_any p st bd ((m : Int) - 1) w3 h3)
          have hus := Lib.hid (used_any p st bd ((m : Int) - 1) w3 h3)
          rw [stOf_out st _ hs] at his hus
          have hi5 : (m : Int) - 1 ≤ 65 := by omega
          clear hs
          by_cases h1 : (1 : Int) ≤ (m : Int) - 1
          · have h2 : (64 : Int) < (m : Int) - 1 := by omega
            have hnext := Lib.hid (show (m : Int) - 1 + 1 = ((m + 1 : Nat) : Int) - 1 by omega)
            have hmm : (m : Int) = 66 := by omega
            obtain rfl : m = 66 := by omega
            clear hmm hnext h1 h2 hi5 hin hend hm
            go_wp2_with (first | (go_at_call 17; refine his.out.mono ?_; rintro e w5 ⟨rfl, rfl⟩) | (go_at_call 15; refine hus.out.mono ?_; rintro e w5 ⟨rfl, rfl⟩))
            go_round
            case rel => exact ⟨67, by omega, by go_num⟩
            case measure => simp [intOf]
          · have hm1 : m = 0 ∨ m = 1 := by omega
            clear h1 hi5 hin hend hm
            rcases hm1 with rfl | rfl
            · go_wp2_with (first | (go_at_call 17; refine his.out.mono ?_; rintro e w5 ⟨rfl, rfl⟩) | (go_at_call 15; refine hus.out.mono ?_; rintro e w5 ⟨rfl, rfl⟩))
              go_round
              case rel => exact ⟨1, by omega, by go_num⟩
              case measure => simp [intOf]
            · go_wp2_with (first | (go_at_call 17; refine his.out.mono ?_; rintro e w5 ⟨rfl, rfl⟩) | (go_at_call 15; refine hus.out.mono ?_; rintro e w5 ⟨rfl, rfl⟩))
              go_round
              case rel => exact ⟨2, by omega, by go_num⟩
              case measure => simp [intOf])

end Go.Proofs.Ytdomijfkpbganaa
