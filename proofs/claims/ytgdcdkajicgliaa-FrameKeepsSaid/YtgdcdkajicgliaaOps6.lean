/- Contracts of slices.IndexFunc and ContainsFunc at 'outside'. Conditions: each theorem's own premises. -/
import Derived.Test.YtgdcdkajicgliaaOps5
namespace Go.Proofs.Ytgdcdkajicgliaa
open Go.RowKit
set_option linter.unusedVariables false
set_option maxRecDepth 100000

set_option maxHeartbeats 4000000 in
theorem indexOut_any (b o : Nat) (cs : List Int) (hl : cs.length = 4) (w : World) (hc : ∀ j, j < 4 → w.cell? ⟨b, o + j, none⟩ = some (.int .i32 (cs.getD j 0))) :
    Calls Try.prog 115 #[.slice (some ⟨b, o, none⟩) 4 4, .func (.func 88) #[] #[]] w fun e w' => (∃ i : Int, e = .returned (.int .i64 i) ∧ decide (0 ≤ i) = cs.any outV) ∧ w = w' := by
  have HC := Lib.hid hc
  clear hc
  go_enter Try.func115, Try.ntmps115
  go_wp2_with fail
  go_loopw [8] (fun i wq => ∃ m : Nat, m ≤ 4 ∧ i = .int .i64 (m : Int) ∧ wq = w ∧ (cs.take m).any outV = false) (fun i _ => (4 - intOf i).toNat)
  case atStart => exact ⟨0, Nat.zero_le _, rfl, rfl, rfl⟩
  case round =>
    obtain ⟨m, hm, rfl, rfl, hno⟩ := hrel
    by_cases hlt : m < 4
    · have hc := HC.out m hlt
      have HNO := Lib.hid hno
      clear hno
      have hml : (m : Int) < 4 := by omega
      have hgd : cs[m]? = some (cs.getD m 0) := by rw [List.getD_eq_getElem?_getD, List.getElem?_eq_getElem (by omega)]; rfl
      have hstep : (cs.take (m + 1)).any outV = outV (cs.getD m 0) := by
        rw [List.take_add_one, hgd, List.any_append, HNO.out]
        simp
      have HST := Lib.hid hstep
      clear hstep hgd
      generalize hx : cs.getD m 0 = x at *
      clear hx
      go_wp2_with fail
      refine (outside_any _ _).mono ?_
      rintro _ _ ⟨rfl, rfl⟩
      by_cases hov : outV x = true
      · go_wp2
        all_goals go_ret
        refine ⟨⟨_, rfl, ?_⟩, rfl⟩
        rw [← List.take_append_drop (m + 1) cs, List.any_append, HST.out, hov]
        simp
      · have hov2 : outV x = false := by simpa using hov
        go_wp2
        refine ⟨⟨m + 1, by omega, by simp, by first | rfl | trivial, by rw [HST.out, hov2]⟩, ?_⟩
        simp only [intOf]
        omega
    · obtain rfl : m = 4 := by omega
      go_wp2
      go_ret
      refine ⟨⟨_, rfl, ?_⟩, rfl⟩
      rw [List.take_of_length_le (by omega)] at hno
      rw [hno]
      rfl
theorem containsOut_any (b o : Nat) (cs : List Int) (hl : cs.length = 4) (w : World) (hc : ∀ j, j < 4 → w.cell? ⟨b, o + j, none⟩ = some (.int .i32 (cs.getD j 0))) :
    Calls Try.prog 87 #[.slice (some ⟨b, o, none⟩) 4 4, .func (.func 88) #[] #[]] w fun e w' => e = .returned (.bool (cs.any outV)) ∧ w = w' := by
  have HC := Lib.hid hc
  clear hc
  go_enter Try.func87, Try.ntmps87
  go_wp2_with fail
  refine (indexOut_any b o cs hl w HC.out).mono ?_
  rintro _ _ ⟨⟨i, rfl, hi⟩, rfl⟩
  have hi := Lib.hid hi
  go_wp2
  go_ret
  exact ⟨ret_bool (by rw [← hi.out]), rfl⟩
end Go.Proofs.Ytgdcdkajicgliaa
