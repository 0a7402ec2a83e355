/- The walks of PixelBits and PixelRises. Conditions: each theorem's own premises. -/
import Derived.Test.YtjjofmammcnagaaPix10
namespace Go.Proofs.Ytjjofmammcnagaa
open Go.RowKit
set_option linter.unusedVariables false

set_option maxHeartbeats 1000000 in
theorem bits_walk (x y k : Int) (w : World) (hx : -2147483648 ≤ x ∧ x ≤ 2147483647) (hy : 0 ≤ y ∧ y < 4294967296) : Calls Try.prog 5 #[.int .i32 x, .int .u32 y, .int .i64 k] w fun e w' => e = .returned (.bool true) ∧ Ext w w' := by
  by_cases hbad : k < 1 ∨ 16 < k
  · have HB := Lib.hid (fun w => Bits_bad x k w hbad)
    have HN := Lib.hid (fun w => Number_bad y k w hbad)
    by_cases h1 : k < 1
    all_goals (try have h2 : 16 < k := by omega)
    all_goals clear hbad
    all_goals (
      go_enter Try.func5, Try.ntmps5
      go_wp2_with (first | (go_at_call 9; refine (wakes_any _).mono ?_; rintro e w1 ⟨rfl, hx1⟩) | (go_at_call 17; refine (HB.out _).mono ?_; rintro e w2 ⟨rfl, rfl⟩) | (go_at_call 18; refine (HN.out _).mono ?_; rintro e w2 ⟨rfl, rfl⟩))
      go_ret
      exact ⟨rfl, hx1⟩)
  · obtain ⟨m, rfl⟩ := Int.eq_ofNat_of_zero_le (show 0 ≤ k by omega)
    have hm1 : 1 ≤ m := by omega
    have hm2 : m ≤ 16 := by omega
    have k1 : (1 : Int) ≤ (m : Int) := by omega
    have k2 : (m : Int) ≤ 16 := by omega
    have HB := Lib.hid (fun w => Bits_ok x m w hx hm1 hm2)
    have HR := Lib.hid (fun w => refBits_any x m w hx hm1 hm2)
    have hp := pow_bd m hm1 hm2
    clear hbad
    by_cases hlt : y < 2 ^ m
    · have HN := Lib.hid (fun w => Number_ok y m w hy.1 hlt hm1 hm2)
      have HM := Lib.hid (fun w => refNumber_any y m w hy.1 hlt hm1 hm2)
      go_enter Try.func5, Try.ntmps5
      go_wp2_with (first | (go_at_call 9; refine (wakes_any _).mono ?_; rintro e w1 ⟨rfl, hx1⟩) | (go_at_call 17; refine (HB.out _).mono ?_; rintro e w2 ⟨rfl, rfl⟩) | (go_at_call 18; refine (HN.out _).mono ?_; rintro e w2 ⟨rfl, rfl⟩) | (go_at_call 19; refine (HR.out _).mono ?_; rintro e w2 ⟨rfl, rfl⟩) | (go_at_call 20; refine (HM.out _).mono ?_; rintro e w2 ⟨rfl, rfl⟩))
      all_goals first | (go_ret; exact ⟨rfl, hx1⟩) | (exfalso; omega)
    · have hge : 2 ^ m ≤ y := by omega
      have HN := Lib.hid (fun w => Number_great y m w hy.1 hge hm1 hm2)
      go_enter Try.func5, Try.ntmps5
      go_wp2_with (first | (go_at_call 9; refine (wakes_any _).mono ?_; rintro e w1 ⟨rfl, hx1⟩) | (go_at_call 17; refine (HB.out _).mono ?_; rintro e w2 ⟨rfl, rfl⟩) | (go_at_call 18; refine (HN.out _).mono ?_; rintro e w2 ⟨rfl, rfl⟩) | (go_at_call 19; refine (HR.out _).mono ?_; rintro e w2 ⟨rfl, rfl⟩))
      all_goals first | (go_ret; exact ⟨rfl, hx1⟩) | (exfalso; omega)

theorem bits_zero (m : Nat) (h1 : 1 ≤ m) (h2 : m ≤ 16) : bitsV 0 m = 0 := by
  unfold bitsV clV
  simp
theorem bits_one (m : Nat) (h1 : 1 ≤ m) (h2 : m ≤ 16) : bitsV 65536 m = 2 ^ m - 1 := by
  have := pow_bd m h1 h2
  unfold bitsV clV
  rw [if_neg (by decide), if_neg (by decide)]
  generalize (2 : Int) ^ m = P at *
  omega
theorem bits_mono (a b : Int) (m : Nat) (h1 : 1 ≤ m) (h2 : m ≤ 16) (h : a ≤ b) : bitsV a m ≤ bitsV b m := by
  have hp := pow_bd m h1 h2
  unfold bitsV
  have hc : clV a ≤ clV b := by unfold clV; split <;> split <;> (try split) <;> (try split) <;> omega
  have := Int.mul_le_mul_of_nonneg_right hc (show (0 : Int) ≤ 2 ^ m - 1 by omega)
  exact Int.ediv_le_ediv (by decide) (by omega)
theorem bits_num (a : Int) (m : Nat) (h1 : 1 ≤ m) (h2 : m ≤ 16) (h0 : 0 ≤ a) (ha : a < 2 ^ m) : bitsV (numV a m) m = a := by
  have hb := num_bd a m h0 ha h1 h2
  have hp := pow_bd m h1 h2
  have hcl : clV (numV a m) = numV a m := by unfold clV; rw [if_neg (by omega), if_neg (by omega)]
  unfold bitsV
  rw [hcl]
  have hn : numV a m = (a * 65536 + (2 ^ m - 1) / 2) / (2 ^ m - 1) := rfl
  rw [hn]
  generalize (2 : Int) ^ m = P at *
  have e1 := Int.emod_add_mul_ediv (a * 65536 + (P - 1) / 2) (P - 1)
  have e2 := Int.emod_nonneg (a * 65536 + (P - 1) / 2) (show P - 1 ≠ 0 by omega)
  have e3 := Int.emod_lt_of_pos (a * 65536 + (P - 1) / 2) (show 0 < P - 1 by omega)
  rw [Int.mul_comm ((a * 65536 + (P - 1) / 2) / (P - 1))]
  generalize (P - 1) * ((a * 65536 + (P - 1) / 2) / (P - 1)) = M at *
  generalize (a * 65536 + (P - 1) / 2) % (P - 1) = R at *
  omega

set_option maxHeartbeats 2000000 in
set_option maxRecDepth 20000 in
theorem rises_walk (x y k : Int) (w : World) (hx : -2147483648 ≤ x ∧ x ≤ 2147483647) (hy : -2147483648 ≤ y ∧ y ≤ 2147483647) : Calls Try.prog 6 #[.int .i32 x, .int .i32 y, .int .i64 k] w fun e w' => e = .returned (.bool true) ∧ Ext w w' := by
  by_cases hk : k < 0
  · have hm1 : 1 ≤ 1 := by decide
    have hm2 : 1 ≤ 16 := by decide
    by_cases hxy : x ≤ y
    · have HA := Lib.hid (fun w => Bits_ok x 1 w hx hm1 hm2)
      have HB := Lib.hid (fun w => Bits_ok y 1 w hy hm1 hm2)
      have HZ := Lib.hid (fun w => Bits_ok 0 1 w (by decide) hm1 hm2)
      have HO := Lib.hid (fun w => Bits_ok 65536 1 w (by decide) hm1 hm2)
      have hA := bits_bd x 1 hm1 hm2
      have HN := Lib.hid (fun w => Number_ok (bitsV x 1) 1 w hA.1 hA.2 hm1 hm2)
      have hnb := num_bd (bitsV x 1) 1 hA.1 hA.2 hm1 hm2
      have HI := Lib.hid (fun w => Bits_ok (numV (bitsV x 1) 1) 1 w (by omega) hm1 hm2)
      rw [bits_num _ 1 hm1 hm2 hA.1 hA.2] at HI
      rw [bits_zero 1 hm1 hm2] at HZ
      rw [bits_one 1 hm1 hm2] at HO
      have hle := bits_mono x y 1 hm1 hm2 hxy
      generalize numV (bitsV x 1) 1 = N at *
      generalize bitsV x 1 = A at *
      generalize bitsV y 1 = B at *
      have e2 : (2 : Int) ^ 1 - 1 = 1 := by decide
      rw [e2] at HO
      go_enter Try.func6, Try.ntmps6
      go_wp2_with (first | (go_at_call 9; refine (wakes_any _).mono ?_; rintro e w1 ⟨rfl, hx1⟩) | (go_at_call_of 17 (Value.int IntKind.i32 x); refine (HA.out _).mono ?_; rintro e w2 ⟨rfl, rfl⟩) | (go_at_call_of 17 (Value.int IntKind.i32 y); refine (HB.out _).mono ?_; rintro e w2 ⟨rfl, rfl⟩) | (go_at_call_of 17 (Value.int IntKind.i32 0); refine (HZ.out _).mono ?_; rintro e w2 ⟨rfl, rfl⟩) | (go_at_call_of 17 (Value.int IntKind.i32 65536); refine (HO.out _).mono ?_; rintro e w2 ⟨rfl, rfl⟩) | (go_at_call 18; refine (HN.out _).mono ?_; rintro e w2 ⟨rfl, rfl⟩) | (go_at_call_of 17 (Value.int IntKind.i32 N); refine (HI.out _).mono ?_; rintro e w2 ⟨rfl, rfl⟩))
      all_goals first | (go_ret; exact ⟨rfl, hx1⟩) | (exfalso; simp only [wrap64] at *; omega)
    · have hyx : y ≤ x := by omega
      have hyx2 : y < x := by omega
      clear hxy
      have HA := Lib.hid (fun w => Bits_ok y 1 w hy hm1 hm2)
      have HB := Lib.hid (fun w => Bits_ok x 1 w hx hm1 hm2)
      have HZ := Lib.hid (fun w => Bits_ok 0 1 w (by decide) hm1 hm2)
      have HO := Lib.hid (fun w => Bits_ok 65536 1 w (by decide) hm1 hm2)
      have hA := bits_bd y 1 hm1 hm2
      have HN := Lib.hid (fun w => Number_ok (bitsV y 1) 1 w hA.1 hA.2 hm1 hm2)
      have hnb := num_bd (bitsV y 1) 1 hA.1 hA.2 hm1 hm2
      have HI := Lib.hid (fun w => Bits_ok (numV (bitsV y 1) 1) 1 w (by omega) hm1 hm2)
      rw [bits_num _ 1 hm1 hm2 hA.1 hA.2] at HI
      rw [bits_zero 1 hm1 hm2] at HZ
      rw [bits_one 1 hm1 hm2] at HO
      have hle := bits_mono y x 1 hm1 hm2 hyx
      generalize numV (bitsV y 1) 1 = N at *
      generalize bitsV y 1 = A at *
      generalize bitsV x 1 = B at *
      have e2 : (2 : Int) ^ 1 - 1 = 1 := by decide
      rw [e2] at HO
      go_enter Try.func6, Try.ntmps6
      go_wp2_with (first | (go_at_call 9; refine (wakes_any _).mono ?_; rintro e w1 ⟨rfl, hx1⟩) | (go_at_call_of 17 (Value.int IntKind.i32 y); refine (HA.out _).mono ?_; rintro e w2 ⟨rfl, rfl⟩) | (go_at_call_of 17 (Value.int IntKind.i32 x); refine (HB.out _).mono ?_; rintro e w2 ⟨rfl, rfl⟩) | (go_at_call_of 17 (Value.int IntKind.i32 0); refine (HZ.out _).mono ?_; rintro e w2 ⟨rfl, rfl⟩) | (go_at_call_of 17 (Value.int IntKind.i32 65536); refine (HO.out _).mono ?_; rintro e w2 ⟨rfl, rfl⟩) | (go_at_call 18; refine (HN.out _).mono ?_; rintro e w2 ⟨rfl, rfl⟩) | (go_at_call_of 17 (Value.int IntKind.i32 N); refine (HI.out _).mono ?_; rintro e w2 ⟨rfl, rfl⟩))
      all_goals first | (go_ret; exact ⟨rfl, hx1⟩) | (exfalso; simp only [wrap64] at *; omega)
  · obtain ⟨m, hm⟩ := Int.eq_ofNat_of_zero_le (show 0 ≤ 1 + k % 16 by omega)
    have hm1 : 1 ≤ m := by omega
    have hm2 : m ≤ 16 := by omega
    have k1 : (1 : Int) ≤ (m : Int) := by omega
    have k2 : (m : Int) ≤ 16 := by omega
    have hp := pow_bd m hm1 hm2
    by_cases hxy : x ≤ y
    · have HA := Lib.hid (fun w => Bits_ok x m w hx hm1 hm2)
      have HB := Lib.hid (fun w => Bits_ok y m w hy hm1 hm2)
      have HZ := Lib.hid (fun w => Bits_ok 0 m w (by decide) hm1 hm2)
      have HO := Lib.hid (fun w => Bits_ok 65536 m w (by decide) hm1 hm2)
      have hA := bits_bd x m hm1 hm2
      have HN := Lib.hid (fun w => Number_ok (bitsV x m) m w hA.1 hA.2 hm1 hm2)
      have hnb := num_bd (bitsV x m) m hA.1 hA.2 hm1 hm2
      have HI := Lib.hid (fun w => Bits_ok (numV (bitsV x m) m) m w (by omega) hm1 hm2)
      rw [bits_num _ m hm1 hm2 hA.1 hA.2] at HI
      rw [bits_zero m hm1 hm2] at HZ
      rw [bits_one m hm1 hm2] at HO
      have hle := bits_mono x y m hm1 hm2 hxy
      generalize numV (bitsV x m) m = N at *
      generalize bitsV x m = A at *
      generalize bitsV y m = B at *

      go_enter Try.func6, Try.ntmps6
      go_wp2_with (first | (go_at_call 9; refine (wakes_any _).mono ?_; rintro e w1 ⟨rfl, hx1⟩) | (go_at_call_of 17 (Value.int IntKind.i32 x); refine (HA.out _).mono ?_; rintro e w2 ⟨rfl, rfl⟩) | (go_at_call_of 17 (Value.int IntKind.i32 y); refine (HB.out _).mono ?_; rintro e w2 ⟨rfl, rfl⟩) | (go_at_call_of 17 (Value.int IntKind.i32 0); refine (HZ.out _).mono ?_; rintro e w2 ⟨rfl, rfl⟩) | (go_at_call_of 17 (Value.int IntKind.i32 65536); refine (HO.out _).mono ?_; rintro e w2 ⟨rfl, rfl⟩) | (go_at_call 18; refine (HN.out _).mono ?_; rintro e w2 ⟨rfl, rfl⟩) | (go_at_call_of 17 (Value.int IntKind.i32 N); refine (HI.out _).mono ?_; rintro e w2 ⟨rfl, rfl⟩))
      all_goals first | (go_ret; exact ⟨rfl, hx1⟩) | (exfalso; simp only [wrap64] at *; omega)
    · have hyx : y ≤ x := by omega
      have hyx2 : y < x := by omega
      clear hxy
      have HA := Lib.hid (fun w => Bits_ok y m w hy hm1 hm2)
      have HB := Lib.hid (fun w => Bits_ok x m w hx hm1 hm2)
      have HZ := Lib.hid (fun w => Bits_ok 0 m w (by decide) hm1 hm2)
      have HO := Lib.hid (fun w => Bits_ok 65536 m w (by decide) hm1 hm2)
      have hA := bits_bd y m hm1 hm2
      have HN := Lib.hid (fun w => Number_ok (bitsV y m) m w hA.1 hA.2 hm1 hm2)
      have hnb := num_bd (bitsV y m) m hA.1 hA.2 hm1 hm2
      have HI := Lib.hid (fun w => Bits_ok (numV (bitsV y m) m) m w (by omega) hm1 hm2)
      rw [bits_num _ m hm1 hm2 hA.1 hA.2] at HI
      rw [bits_zero m hm1 hm2] at HZ
      rw [bits_one m hm1 hm2] at HO
      have hle := bits_mono y x m hm1 hm2 hyx
      generalize numV (bitsV y m) m = N at *
      generalize bitsV y m = A at *
      generalize bitsV x m = B at *

      go_enter Try.func6, Try.ntmps6
      go_wp2_with (first | (go_at_call 9; refine (wakes_any _).mono ?_; rintro e w1 ⟨rfl, hx1⟩) | (go_at_call_of 17 (Value.int IntKind.i32 y); refine (HA.out _).mono ?_; rintro e w2 ⟨rfl, rfl⟩) | (go_at_call_of 17 (Value.int IntKind.i32 x); refine (HB.out _).mono ?_; rintro e w2 ⟨rfl, rfl⟩) | (go_at_call_of 17 (Value.int IntKind.i32 0); refine (HZ.out _).mono ?_; rintro e w2 ⟨rfl, rfl⟩) | (go_at_call_of 17 (Value.int IntKind.i32 65536); refine (HO.out _).mono ?_; rintro e w2 ⟨rfl, rfl⟩) | (go_at_call 18; refine (HN.out _).mono ?_; rintro e w2 ⟨rfl, rfl⟩) | (go_at_call_of 17 (Value.int IntKind.i32 N); refine (HI.out _).mono ?_; rintro e w2 ⟨rfl, rfl⟩))
      all_goals first | (go_ret; exact ⟨rfl, hx1⟩) | (exfalso; simp only [wrap64] at *; omega)

theorem i32_of_wf {z : Int} (h : (Lit.int .i32 z).wf = true) : -2147483648 ≤ z ∧ z ≤ 2147483647 := by
  simp [Lit.wf, IntKind.min, IntKind.max, IntKind.bits, IntKind.signed] at h
  omega
theorem u32_of_wf {z : Int} (h : (Lit.int .u32 z).wf = true) : 0 ≤ z ∧ z < 4294967296 := by
  simp [Lit.wf, IntKind.min, IntKind.max, IntKind.bits, IntKind.signed] at h
  omega
theorem rises_arg (W : World) (v0 v1 v2 : Value) (h0 : ArgIs Try.prog W 24 v0) (h1 : ArgIs Try.prog W 24 v1) (h2 : ArgIs Try.prog W 3 v2) : Calls Try.prog 6 #[v0, v1, v2] W fun e w' => e = .returned (.bool true) ∧ Ext W w' := by
  obtain ⟨x, rfl, hx⟩ := h0.int Try.underlying24
  obtain ⟨y, rfl, hy⟩ := h1.int Try.underlying24
  obtain ⟨k, rfl, _⟩ := h2.int Try.underlying3
  exact rises_walk x y k W (i32_of_wf hx) (i32_of_wf hy)
theorem bits_arg (W : World) (v0 v1 v2 : Value) (h0 : ArgIs Try.prog W 24 v0) (h1 : ArgIs Try.prog W 38 v1) (h2 : ArgIs Try.prog W 3 v2) : Calls Try.prog 5 #[v0, v1, v2] W fun e w' => e = .returned (.bool true) ∧ Ext W w' := by
  obtain ⟨x, rfl, hx⟩ := h0.int Try.underlying24
  obtain ⟨y, rfl, hy⟩ := h1.int Try.underlying38
  obtain ⟨k, rfl, _⟩ := h2.int Try.underlying3
  exact bits_walk x y k W (i32_of_wf hx) (u32_of_wf hy)
end Go.Proofs.Ytjjofmammcnagaa
