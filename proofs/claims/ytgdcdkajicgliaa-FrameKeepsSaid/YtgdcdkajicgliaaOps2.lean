/- Contracts of fix' and the document's numbers. Conditions: each theorem's own premises. -/
import Derived.Test.YtgdcdkajicgliaaOps1
namespace Go.Proofs.Ytgdcdkajicgliaa
open Go.RowKit
set_option linter.unusedVariables false
set_option maxRecDepth 100000

def rawV (n : Int) : Int := min (max n (-2147483648)) 2147483647
theorem rawV_in (n : Int) : IntKind.i32.wrap (rawV n) = rawV n := IntWalk.i32_in _ ⟨by unfold rawV; omega, by unfold rawV; omega⟩
def addV (x y : Int) : Int := rawV (wrap64 (wrap64 x + wrap64 y))
def subV (x y : Int) : Int := rawV (wrap64 (wrap64 x - wrap64 y))
def mulV (x y : Int) : Int := rawV (wrap64 (wrap64 (wrap64 x * wrap64 y) + 32768) / 65536)
def clV (x : Int) : Int := min (max x 0) 65536
theorem wrap64_lo (x : Int) : -9223372036854775808 ≤ wrap64 x := by unfold wrap64; omega
theorem wrap64_hi (x : Int) : wrap64 x ≤ 9223372036854775807 := by unfold wrap64; omega
theorem down_neg {x : Int} (h0 : -9223372036854775808 ≤ x) (h : x.tmod 65536 < 0) : wrap64 (x.tdiv 65536 - 1) = x / 65536 := by
  have hx : x < 0 := by
    rcases Int.lt_or_le x 0 with h1 | h1
    · exact h1
    · have := Int.tmod_nonneg (a := x) 65536 h1
      omega
  obtain ⟨y, rfl⟩ : ∃ y, x = -y := ⟨-x, by omega⟩
  rw [Int.neg_tmod, Int.tmod_eq_emod_of_nonneg (by omega)] at h
  rw [Int.neg_tdiv, Int.tdiv_eq_ediv_of_nonneg (by omega)]
  unfold wrap64
  omega
theorem down_pos {x : Int} (h : 0 ≤ x.tmod 65536) : x.tdiv 65536 = x / 65536 := by
  rcases Int.lt_or_le x 0 with h1 | h1
  · obtain ⟨y, rfl⟩ : ∃ y, x = -y := ⟨-x, by omega⟩
    rw [Int.neg_tmod, Int.tmod_eq_emod_of_nonneg (by omega)] at h
    rw [Int.neg_tdiv, Int.tdiv_eq_ediv_of_nonneg (by omega)]
    omega
  · exact Int.tdiv_eq_ediv_of_nonneg h1

theorem cut_any (n l h : Int) (w : World) : Calls Try.prog 137 #[.int .i64 n, .int .i64 l, .int .i64 h] w fun e w' => e = .returned (.int .i64 (min (max n l) h)) ∧ w = w' := by
  go_enter Try.func137, Try.ntmps137
  go_wp2
  all_goals go_ret
  all_goals refine ⟨ret_int ?_, rfl⟩
  all_goals first | omega | (split at * <;> omega) | (unfold rawV; omega)

theorem raw_any (n : Int) (w : World) : Calls Try.prog 134 #[.int .i64 n] w fun e w' => e = .returned (.int .i32 (rawV n)) ∧ w = w' := by
  go_enter Try.func134, Try.ntmps134
  go_wp2_with fail
  refine (cut_any _ _ _ _).mono ?_
  rintro _ _ ⟨rfl, rfl⟩
  go_wp2
  all_goals go_ret
  all_goals exact ⟨rfl, rfl⟩

theorem clampfix_any (n l h : Int) (w : World) : Calls Try.prog 100 #[.int .i32 n, .int .i32 l, .int .i32 h] w fun e w' => e = .returned (.int .i32 (min (max n l) h)) ∧ w = w' := by
  go_enter Try.func100, Try.ntmps100
  go_wp2
  all_goals go_ret
  all_goals refine ⟨ret_int ?_, rfl⟩
  all_goals first | omega | (split at * <;> omega) | (unfold rawV; omega)

theorem minfix_any (n l : Int) (w : World) : Calls Try.prog 133 #[.int .i32 n, .int .i32 l] w fun e w' => e = .returned (.int .i32 (min n l)) ∧ w = w' := by
  go_enter Try.func133, Try.ntmps133
  go_wp2
  all_goals go_ret
  all_goals refine ⟨ret_int ?_, rfl⟩
  all_goals first | omega | (split at * <;> omega) | (unfold rawV; omega)

theorem addfix_any (x y : Int) (w : World) : Calls Try.prog 122 #[.int .i32 x, .int .i32 y] w fun e w' => e = .returned (.int .i32 (addV x y)) ∧ w = w' := by
  go_enter Try.func122, Try.ntmps122
  go_wp2_with fail
  refine (raw_any _ _).mono ?_
  rintro _ _ ⟨rfl, rfl⟩
  go_wp2
  all_goals go_ret
  all_goals exact ⟨rfl, rfl⟩

theorem subfix_any (x y : Int) (w : World) : Calls Try.prog 123 #[.int .i32 x, .int .i32 y] w fun e w' => e = .returned (.int .i32 (subV x y)) ∧ w = w' := by
  go_enter Try.func123, Try.ntmps123
  go_wp2_with fail
  refine (raw_any _ _).mono ?_
  rintro _ _ ⟨rfl, rfl⟩
  go_wp2
  all_goals go_ret
  all_goals exact ⟨rfl, rfl⟩

theorem mulfix_any (x y : Int) (w : World) : Calls Try.prog 121 #[.int .i32 x, .int .i32 y] w fun e w' => e = .returned (.int .i32 (mulV x y)) ∧ w = w' := by
  go_enter Try.func121, Try.ntmps121
  go_wp2_with fail
  refine (raw_any _ _).mono ?_
  rintro _ _ ⟨rfl, rfl⟩
  go_wp2
  all_goals go_ret
  all_goals exact ⟨rfl, rfl⟩

theorem rmin_any (n l : Int) (w : World) : Calls Try.prog 124 #[.int .i32 n, .int .i32 l] w fun e w' => e = .returned (.int .i32 (min n l)) ∧ w = w' := by
  go_enter Try.func124, Try.ntmps124
  go_wp2
  all_goals go_ret
  all_goals refine ⟨ret_int ?_, rfl⟩
  all_goals first | omega | (split at * <;> omega) | (unfold rawV; omega)

theorem rmax_any (n l : Int) (w : World) : Calls Try.prog 125 #[.int .i32 n, .int .i32 l] w fun e w' => e = .returned (.int .i32 (max n l)) ∧ w = w' := by
  go_enter Try.func125, Try.ntmps125
  go_wp2
  all_goals go_ret
  all_goals refine ⟨ret_int ?_, rfl⟩
  all_goals first | omega | (split at * <;> omega) | (unfold rawV; omega)

theorem rclamp_any (n l h : Int) (w : World) : Calls Try.prog 109 #[.int .i32 n, .int .i32 l, .int .i32 h] w fun e w' => e = .returned (.int .i32 (min (max n l) h)) ∧ w = w' := by
  go_enter Try.func109, Try.ntmps109
  go_wp2_with fail
  refine (rmax_any _ _ _).mono ?_
  rintro _ _ ⟨rfl, rfl⟩
  go_wp2_with fail
  refine (rmin_any _ _ _).mono ?_
  rintro _ _ ⟨rfl, rfl⟩
  go_wp2
  all_goals go_ret
  all_goals exact ⟨rfl, rfl⟩

theorem rdown_any (x : Int) (w : World) (h0 : -9223372036854775808 ≤ x) (h1 : x ≤ 9223372036854775807) : Calls Try.prog 136 #[.int .i64 x, .int .i64 65536] w fun e w' => e = .returned (.int .i64 (x / 65536)) ∧ w = w' := by
  go_enter Try.func136, Try.ntmps136
  go_wp2
  all_goals go_ret
  · exact ⟨ret_int (down_neg h0 ‹_›), rfl⟩
  · exact ⟨ret_int (down_pos ‹_›), rfl⟩

theorem rraw_any (n : Int) (w : World) : Calls Try.prog 135 #[.int .i64 n] w fun e w' => e = .returned (.int .i32 (rawV n)) ∧ w = w' := by
  go_enter Try.func135, Try.ntmps135
  have h1 : rawV n = if 2147483647 < n then 2147483647 else if n < -2147483648 then -2147483648 else n := by unfold rawV; split <;> (try split) <;> omega
  have hv := Lib.hid h1
  clear h1
  go_wp2
  all_goals go_ret
  all_goals refine ⟨ret_int ?_, rfl⟩
  all_goals rw [hv.out]
  all_goals first | (rw [if_pos ‹_›]) | (rw [if_neg (by omega), if_pos ‹_›]) | (rw [if_neg (by omega), if_neg (by omega)])

theorem radd_any (x y : Int) (w : World) : Calls Try.prog 128 #[.int .i32 x, .int .i32 y] w fun e w' => e = .returned (.int .i32 (addV x y)) ∧ w = w' := by
  go_enter Try.func128, Try.ntmps128
  go_wp2_with fail
  refine (rraw_any _ _).mono ?_
  rintro _ _ ⟨rfl, rfl⟩
  go_wp2
  all_goals go_ret
  all_goals exact ⟨rfl, rfl⟩

theorem rsub_any (x y : Int) (w : World) : Calls Try.prog 129 #[.int .i32 x, .int .i32 y] w fun e w' => e = .returned (.int .i32 (subV x y)) ∧ w = w' := by
  go_enter Try.func129, Try.ntmps129
  go_wp2_with fail
  refine (rraw_any _ _).mono ?_
  rintro _ _ ⟨rfl, rfl⟩
  go_wp2
  all_goals go_ret
  all_goals exact ⟨rfl, rfl⟩

theorem rmul_any (x y : Int) (w : World) : Calls Try.prog 126 #[.int .i32 x, .int .i32 y] w fun e w' => e = .returned (.int .i32 (mulV x y)) ∧ w = w' := by
  go_enter Try.func126, Try.ntmps126
  go_wp2_with fail
  refine (rdown_any _ _ (wrap64_lo _) (wrap64_hi _)).mono ?_
  rintro _ _ ⟨rfl, rfl⟩
  go_wp2_with fail
  refine (rraw_any _ _).mono ?_
  rintro _ _ ⟨rfl, rfl⟩
  go_wp2
  all_goals go_ret
  all_goals exact ⟨rfl, rfl⟩

end Go.Proofs.Ytgdcdkajicgliaa
