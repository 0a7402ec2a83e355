/- Contracts of pixel's numbers: bits, number, Bits, Number; the document's power, Bits, Number. Conditions: each theorem's own premises. -/
import Derived.Test.YtgdcdkajicgliaaRows
import Derived.Test.YtgdcdkajicgliaaBitsN
import Derived.Test.YtgdcdkajicgliaaBlk
import Derived.Test.YtgdcdkajicgliaaOpen
import Derived.Lib.Hide
import Derived.Deep.RegionWith
import Derived.Deep.DrawnRows
namespace Go.Proofs.Ytgdcdkajicgliaa
open Go.RowKit
set_option linter.unusedVariables false
set_option maxRecDepth 100000

def clP (x : Int) : Int := if x < 0 then 0 else if 65536 < x then 65536 else x
def bitsV (x : Int) (k : Nat) : Int := (clP x * (2 ^ k - 1) + 32768) / 65536
def numV (x : Int) (k : Nat) : Int := (x * 65536 + (2 ^ k - 1) / 2) / (2 ^ k - 1)
theorem clP_bd (x : Int) : 0 ≤ clP x ∧ clP x ≤ 65536 := by unfold clP; split <;> (try split) <;> omega
theorem pow_bd (k : Nat) (h1 : 1 ≤ k) (h2 : k ≤ 16) : (2 : Int) ≤ 2 ^ k ∧ (2 : Int) ^ k ≤ 65536 := by
  have a : (2 : Int) ^ 1 ≤ 2 ^ k := by exact_mod_cast Nat.pow_le_pow_right (by decide) h1
  have b : (2 : Int) ^ k ≤ 2 ^ 16 := by exact_mod_cast Nat.pow_le_pow_right (by decide) h2
  exact ⟨by simpa using a, by simpa using b⟩
theorem w64_in (n : Int) (h : -9223372036854775808 ≤ n ∧ n < 9223372036854775808) : wrap64 n = n := by
  unfold wrap64
  omega
theorem bits_bd (x : Int) (k : Nat) (h1 : 1 ≤ k) (h2 : k ≤ 16) : 0 ≤ bitsV x k ∧ bitsV x k < 2 ^ k := by
  obtain ⟨p1, p2⟩ := pow_bd k h1 h2
  obtain ⟨c1, c2⟩ := clP_bd x
  unfold bitsV
  generalize (2 : Int) ^ k = P at *
  have m1 : 0 ≤ clP x * (P - 1) := Int.mul_nonneg c1 (by omega)
  have m2 : clP x * (P - 1) ≤ 65536 * (P - 1) := Int.mul_le_mul_of_nonneg_right c2 (by omega)
  generalize clP x * (P - 1) = M at *
  omega
theorem bits_core (c : Int) (k : Nat) (h0 : 0 ≤ c) (hc : c ≤ 65536) (h1 : 1 ≤ k) (h2 : k ≤ 16) :
    wrap64 (wrap64 (c * wrap64 (wrap64 (2 ^ k) - 1)) + 32768) / 65536 % 4294967296 = (c * (2 ^ k - 1) + 32768) / 65536 := by
  obtain ⟨p1, p2⟩ := pow_bd k h1 h2
  generalize (2 : Int) ^ k = P at *
  rw [w64_in P (by omega), w64_in (P - 1) (by omega)]
  have m1 : 0 ≤ c * (P - 1) := Int.mul_nonneg h0 (by omega)
  have m2 : c * (P - 1) ≤ 65536 * (P - 1) := Int.mul_le_mul_of_nonneg_right hc (by omega)
  generalize c * (P - 1) = M at *
  rw [w64_in M (by omega), w64_in (M + 32768) (by omega)]
  omega

theorem bits_any (x : Int) (k : Nat) (w : World) (hx : -2147483648 ≤ x ∧ x ≤ 2147483647) (h1 : 1 ≤ k) (h2 : k ≤ 16) : Calls Try.prog 94 #[.int .i32 x, .int .i64 (k : Int)] w fun e w' => e = .returned (.int .u32 (bitsV x k)) ∧ w = w' := by
  have k1 : (1 : Int) ≤ (k : Int) := by omega
  have k2 : (k : Int) ≤ 16 := by omega
  rcases Int.lt_or_le x 0 with hn | hn
  · have HC := Lib.hid (bits_core 0 k (by omega) (by omega) h1 h2)
    have HV := Lib.hid (show bitsV x k = (0 * (2 ^ k - 1) + 32768) / 65536 by unfold bitsV clP; rw [if_pos hn])
    go_enter Try.func94, Try.ntmps94
    go_wp2
    all_goals go_ret
    all_goals refine ⟨ret_int ?_, rfl⟩
    all_goals rw [HV.out]
    all_goals simp
  · rcases Int.lt_or_le 65536 x with hb | hb
    · have HC := Lib.hid (bits_core 65536 k (by omega) (by omega) h1 h2)
      have HV := Lib.hid (show bitsV x k = (65536 * (2 ^ k - 1) + 32768) / 65536 by unfold bitsV clP; rw [if_neg (by omega), if_pos hb])
      go_enter Try.func94, Try.ntmps94
      go_wp2
      all_goals go_ret
      all_goals refine ⟨ret_int ?_, rfl⟩
      all_goals rw [HV.out]
      all_goals exact HC.out
    · have HC := Lib.hid (bits_core x k (by omega) (by omega) h1 h2)
      have HV := Lib.hid (show bitsV x k = (x * (2 ^ k - 1) + 32768) / 65536 by unfold bitsV clP; rw [if_neg (by omega), if_neg (by omega)])
      go_enter Try.func94, Try.ntmps94
      go_wp2
      all_goals go_ret
      all_goals refine ⟨ret_int ?_, rfl⟩
      all_goals rw [HV.out]
      all_goals exact HC.out

theorem num_bd (x : Int) (k : Nat) (h0 : 0 ≤ x) (hx : x < 2 ^ k) (h1 : 1 ≤ k) (h2 : k ≤ 16) : 0 ≤ numV x k ∧ numV x k ≤ 65536 := by
  obtain ⟨p1, p2⟩ := pow_bd k h1 h2
  unfold numV
  generalize (2 : Int) ^ k = P at *
  constructor
  · exact Int.ediv_nonneg (by omega) (by omega)
  · have : (x * 65536 + (P - 1) / 2) / (P - 1) < 65537 := by
      refine Int.ediv_lt_of_lt_mul (by omega) ?_
      omega
    omega
theorem w32_in (n : Int) (h : -2147483648 ≤ n ∧ n < 2147483648) : wrap32 n = n := by
  unfold wrap32
  omega
theorem num_core (x : Int) (k : Nat) (h0 : 0 ≤ x) (hx : x < 2 ^ k) (h1 : 1 ≤ k) (h2 : k ≤ 16) :
    wrap32 (wrap64 ((wrap64 (wrap64 (wrap64 x * 65536) + wrap64 ((wrap64 (wrap64 (2 ^ k) - 1)).tdiv 2))).tdiv (wrap64 (wrap64 (2 ^ k) - 1)))) = numV x k := by
  have hb := num_bd x k h0 hx h1 h2
  obtain ⟨p1, p2⟩ := pow_bd k h1 h2
  unfold numV at *
  generalize (2 : Int) ^ k = P at *
  rw [w64_in x (by omega), w64_in P (by omega), w64_in (P - 1) (by omega), w64_in (x * 65536) (by omega), Int.tdiv_eq_ediv_of_nonneg (show (0 : Int) ≤ P - 1 by omega), w64_in ((P - 1) / 2) (by omega), w64_in (x * 65536 + (P - 1) / 2) (by omega), Int.tdiv_eq_ediv_of_nonneg (show (0 : Int) ≤ x * 65536 + (P - 1) / 2 by omega)]
  generalize (x * 65536 + (P - 1) / 2) / (P - 1) = D at *
  rw [w64_in D (by omega), w32_in D (by omega)]

theorem number_any (x : Int) (k : Nat) (w : World) (hx0 : 0 ≤ x) (hx : x < 2 ^ k) (h1 : 1 ≤ k) (h2 : k ≤ 16) : Calls Try.prog 116 #[.int .u32 x, .int .i64 (k : Int)] w fun e w' => e = .returned (.int .i32 (numV x k)) ∧ w = w' := by
  have k1 : (1 : Int) ≤ (k : Int) := by omega
  have k2 : (k : Int) ≤ 16 := by omega
  have hnz : ¬ wrap64 (wrap64 (2 ^ k) - 1) = 0 := by
    obtain ⟨p1, p2⟩ := pow_bd k h1 h2
    rw [w64_in (2 ^ k) (by omega), w64_in (2 ^ k - 1) (by omega)]
    omega
  have HC := Lib.hid (num_core x k hx0 hx h1 h2)
  clear hx
  go_enter Try.func116, Try.ntmps116
  go_wp2
  all_goals go_ret
  all_goals refine ⟨ret_int ?_, rfl⟩
  all_goals exact HC.out
/-- Which numbers may be asked of. -/
def kOk (k : Int) : Bool := decide (1 ≤ k) && decide (k ≤ 16)

theorem Bits_ok (x : Int) (k : Nat) (w : World) (hx : -2147483648 ≤ x ∧ x ≤ 2147483647) (h1 : 1 ≤ k) (h2 : k ≤ 16) : Calls Try.prog 93 #[.int .i32 x, .int .i64 (k : Int)] w fun e w' => e = .returned (.tuple #[.int .u32 (bitsV x k), .int .i64 0]) ∧ w = w' := by
  have k1 : (1 : Int) ≤ (k : Int) := by omega
  have k2 : (k : Int) ≤ 16 := by omega
  go_enter Try.func93, Try.ntmps93
  go_wp2_with (go_at_call 94; refine (bits_any x k _ hx h1 h2).mono ?_; rintro e w1 ⟨rfl, rfl⟩)
  go_ret2
  exact ⟨rfl, rfl⟩
theorem Bits_bad (x k : Int) (w : World) (h : k < 1 ∨ 16 < k) : Calls Try.prog 93 #[.int .i32 x, .int .i64 k] w fun e w' => e = .returned (.tuple #[.int .u32 0, .int .i64 2]) ∧ w = w' := by
  by_cases h1 : k < 1
  · clear h
    go_enter Try.func93, Try.ntmps93
    go_wp2
    go_ret2
    exact ⟨rfl, rfl⟩
  · have h2 : 16 < k := by omega
    clear h
    go_enter Try.func93, Try.ntmps93
    go_wp2
    go_ret2
    exact ⟨rfl, rfl⟩

theorem Number_ok (x : Int) (k : Nat) (w : World) (hx0 : 0 ≤ x) (hx : x < 2 ^ k) (h1 : 1 ≤ k) (h2 : k ≤ 16) : Calls Try.prog 92 #[.int .u32 x, .int .i64 (k : Int)] w fun e w' => e = .returned (.tuple #[.int .i32 (numV x k), .int .i64 0]) ∧ w = w' := by
  have k1 : (1 : Int) ≤ (k : Int) := by omega
  have k2 : (k : Int) ≤ 16 := by omega
  have hd : x / 2 ^ k = 0 := Int.ediv_eq_zero_of_lt hx0 hx
  have HX := Lib.hid hx
  clear hx
  go_enter Try.func92, Try.ntmps92
  go_wp2_with (go_at_call 116; refine (number_any x k _ hx0 HX.out h1 h2).mono ?_; rintro e w1 ⟨rfl, rfl⟩)
  go_ret2
  exact ⟨rfl, rfl⟩
theorem Number_bad (x k : Int) (w : World) (h : k < 1 ∨ 16 < k) : Calls Try.prog 92 #[.int .u32 x, .int .i64 k] w fun e w' => e = .returned (.tuple #[.int .i32 0, .int .i64 2]) ∧ w = w' := by
  by_cases h1 : k < 1
  · clear h
    go_enter Try.func92, Try.ntmps92
    go_wp2
    go_ret2
    exact ⟨rfl, rfl⟩
  · have h2 : 16 < k := by omega
    clear h
    go_enter Try.func92, Try.ntmps92
    go_wp2
    go_ret2
    exact ⟨rfl, rfl⟩
theorem Number_great (x : Int) (k : Nat) (w : World) (hx0 : 0 ≤ x) (hx : 2 ^ k ≤ x) (h1 : 1 ≤ k) (h2 : k ≤ 16) : Calls Try.prog 92 #[.int .u32 x, .int .i64 (k : Int)] w fun e w' => e = .returned (.tuple #[.int .i32 0, .int .i64 2]) ∧ w = w' := by
  have k1 : (1 : Int) ≤ (k : Int) := by omega
  have k2 : (k : Int) ≤ 16 := by omega
  have hd : ¬ x / 2 ^ k = 0 := by
    have hp := (pow_bd k h1 h2).1
    have : 1 ≤ x / 2 ^ k := by
      rw [Int.le_ediv_iff_mul_le (by omega)]
      omega
    omega
  have hd' : (x / 2 ^ k != 0) = true := by simpa using hd
  clear hx hd
  go_enter Try.func92, Try.ntmps92
  go_wp2
  all_goals go_ret2
  all_goals exact ⟨rfl, rfl⟩

theorem power_any (k : Nat) (w : World) (hk : k ≤ 62) : Calls Try.prog 105 #[.int .i64 (k : Int)] w fun e w' => e = .returned (.int .i64 (2 ^ k)) ∧ w = w' := by
  go_enter Try.func105, Try.ntmps105
  go_wp2
  go_loop [3, 4] (fun x i => ∃ m : Nat, m ≤ k ∧ i = .int .i64 m ∧ x = .int .i64 (2 ^ m)) (fun _ i => k - (intOf i).toNat)
  case atStart => exact ⟨0, Nat.zero_le _, rfl, rfl⟩
  case round =>
    obtain ⟨m, hm, rfl, rfl⟩ := hrel
    by_cases hlt : m < k
    · have hml : (m : Int) < (k : Int) := by omega
      have hp := Lib.hid (show wrap64 (2 ^ m * 2) = 2 ^ (m + 1) by
        have : (2 : Int) ^ (m + 1) ≤ 2 ^ 62 := by exact_mod_cast Nat.pow_le_pow_right (by decide) (by omega : m + 1 ≤ 62)
        have h0 : (0 : Int) < 2 ^ (m + 1) := by exact_mod_cast Nat.pow_pos (by decide)
        rw [← Int.pow_succ]
        exact w64_in _ (by omega))
      go_wp2
      go_round
      case rel => exact ⟨m + 1, by omega, by go_num, by rw [hp.out]⟩
      case measure => simp [intOf]; omega
    · obtain rfl : m = k := by omega
      go_wp2
      go_ret
      exact ⟨rfl, rfl⟩

theorem refBits_any (x : Int) (k : Nat) (w : World) (hx : -2147483648 ≤ x ∧ x ≤ 2147483647) (h1 : 1 ≤ k) (h2 : k ≤ 16) : Calls Try.prog 72 #[.int .i32 x, .int .i64 (k : Int)] w fun e w' => e = .returned (.int .u32 (bitsV x k)) ∧ w = w' := by
  have h0 : clP x = if x < 0 then 0 else if 65536 < x then 65536 else x := rfl
  have hc := clP_bd x
  have core : ∀ c : Int, 0 ≤ c → c ≤ 65536 → clP x = c → Hid (wrap64 ((wrap64 (wrap64 (c * wrap64 (2 ^ k - 1)) + 32768)).tdiv 65536) % 4294967296 = bitsV x k) := fun c c0 c1 hc => by
    show _ = _
    unfold bitsV
    rw [hc]
    obtain ⟨p1, p2⟩ := pow_bd k h1 h2
    generalize (2 : Int) ^ k = P at *
    rw [w64_in (P - 1) (by omega)]
    have m1 : 0 ≤ c * (P - 1) := Int.mul_nonneg c0 (by omega)
    have m2 : c * (P - 1) ≤ 65536 * (P - 1) := Int.mul_le_mul_of_nonneg_right c1 (by omega)
    generalize c * (P - 1) = M at *
    rw [w64_in M (by omega), w64_in (M + 32768) (by omega), Int.tdiv_eq_ediv_of_nonneg (by omega), w64_in ((M + 32768) / 65536) (by omega)]
    omega
  rcases Int.lt_or_le x 0 with hn | hn
  · have HC := core 0 (by omega) (by omega) (by rw [h0, if_pos hn])
    clear core h0 hc
    go_enter Try.func72, Try.ntmps72
    go_wp2_with (go_at_call 105; refine (power_any k _ (by omega)).mono ?_; rintro e w1 ⟨rfl, rfl⟩)
    go_ret
    refine ⟨ret_int ?_, rfl⟩
    exact Eq.trans (by rw [Int.zero_mul]; decide +kernel) HC.out
  · rcases Int.lt_or_le 65536 x with hb | hb
    · have HC := core 65536 (by omega) (by omega) (by rw [h0, if_neg (by omega), if_pos hb])
      clear core h0 hc
      go_enter Try.func72, Try.ntmps72
      go_wp2_with (go_at_call 105; refine (power_any k _ (by omega)).mono ?_; rintro e w1 ⟨rfl, rfl⟩)
      go_ret
      refine ⟨ret_int ?_, rfl⟩
      exact HC.out
    · have HC := core x (by omega) (by omega) (by rw [h0, if_neg (by omega), if_neg (by omega)])
      clear core h0 hc
      go_enter Try.func72, Try.ntmps72
      go_wp2_with (go_at_call 105; refine (power_any k _ (by omega)).mono ?_; rintro e w1 ⟨rfl, rfl⟩)
      go_ret
      refine ⟨ret_int ?_, rfl⟩
      exact HC.out

theorem refNumber_any (x : Int) (k : Nat) (w : World) (hx0 : 0 ≤ x) (hx : x < 2 ^ k) (h1 : 1 ≤ k) (h2 : k ≤ 16) : Calls Try.prog 112 #[.int .u32 x, .int .i64 (k : Int)] w fun e w' => e = .returned (.int .i32 (numV x k)) ∧ w = w' := by
  have hnz : ¬ wrap64 (2 ^ k - 1) = 0 := by
    obtain ⟨p1, p2⟩ := pow_bd k h1 h2
    rw [w64_in (2 ^ k - 1) (by omega)]
    omega
  have HC : Hid (wrap32 (wrap64 ((wrap64 (wrap64 (wrap64 x * 65536) + wrap64 ((wrap64 (2 ^ k - 1)).tdiv 2))).tdiv (wrap64 (2 ^ k - 1)))) = numV x k) := by
    have := num_core x k hx0 hx h1 h2
    obtain ⟨p1, p2⟩ := pow_bd k h1 h2
    rw [w64_in (2 ^ k) (by omega)] at this
    exact this
  clear hx
  go_enter Try.func112, Try.ntmps112
  go_wp2_with (go_at_call 105; refine (power_any k _ (by omega)).mono ?_; rintro e w1 ⟨rfl, rfl⟩)
  go_ret
  refine ⟨ret_int ?_, rfl⟩
  exact HC.out
end Go.Proofs.Ytgdcdkajicgliaa
