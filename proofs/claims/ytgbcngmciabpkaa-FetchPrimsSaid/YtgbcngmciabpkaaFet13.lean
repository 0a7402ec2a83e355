/- The walks of FetchNumbers and FetchUnits. Conditions: each theorem's own premises. -/
import Derived.Test.YtgbcngmciabpkaaFet12
namespace Go.Proofs.Ytgbcngmciabpkaa
open Go.RowKit Go.ChangeShapes
set_option linter.unusedVariables false

theorem numR_two (k : Int) (nm : Bool) (n : Int) : (numR k nm n).2 = 0 ∨ numR k nm n = (0, 2) := by
  unfold numR
  split
  · exact .inr rfl
  · left
    split
    · rfl
    · split <;> rfl
set_option maxRecDepth 100000 in
theorem numbers_walk (k : Int) (nm : Bool) (n : Int) (w : World) : Calls Try.prog 4 #[.int .i64 k, .bool nm, .int .i64 n] w fun e w' => e = .returned (.bool true) ∧ Ext w w' := by
  have HN := Lib.hid (num_any k nm n)
  have HR := Lib.hid (rnum_any k nm n)
  unfold numB at HR
  rcases numR_two k nm n with h | h
  · obtain ⟨a, ha⟩ : ∃ a, (numR k nm n).1 = a := ⟨_, rfl⟩
    rw [ha, h] at HN HR
    clear ha h
    have HR' : Hid (∀ w, Calls Try.prog 16 #[.int .i64 k, .bool nm, .int .i64 n] w fun e w' => e = .returned (.tuple #[.int .i32 a, .bool true]) ∧ w = w') := HR
    clear HR
    go_enter Try.func4, Try.ntmps4
    go_wp2_with (first | (go_at_call 10; refine (wakes_any _).mono ?_; rintro _ w1 ⟨rfl, hx1⟩; have HX1 := Lib.hid hx1; clear hx1) | (go_at_call 15; refine (HN.out _).mono ?_; rintro _ w2 ⟨rfl, hx2⟩; have HX2 := Lib.hid hx2; clear hx2) | (go_at_call 16; refine (HR'.out _).mono ?_; rintro _ _ ⟨rfl, rfl⟩) | (go_at_call 17; refine (width_any _ _).mono ?_; rintro _ w3 ⟨rfl, hx3⟩; have HX3 := Lib.hid hx3; clear hx3) | (go_at_call 18; refine (wd_any _ _).mono ?_; rintro _ _ ⟨rfl, rfl⟩))
    go_ret
    exact ⟨rfl, (HX1.out.trans HX2.out).trans HX3.out⟩
  · rw [h] at HN HR
    clear h
    have HN' : Hid (∀ w, Calls Try.prog 15 #[.int .i64 k, .bool nm, .int .i64 n] w fun e w' => e = .returned (.tuple #[.int .i32 0, .int .i64 2]) ∧ Ext w w') := HN
    have HR' : Hid (∀ w, Calls Try.prog 16 #[.int .i64 k, .bool nm, .int .i64 n] w fun e w' => e = .returned (.tuple #[.int .i32 0, .bool false]) ∧ w = w') := HR
    clear HR HN
    go_enter Try.func4, Try.ntmps4
    go_wp2_with (first | (go_at_call 10; refine (wakes_any _).mono ?_; rintro _ w1 ⟨rfl, hx1⟩; have HX1 := Lib.hid hx1; clear hx1) | (go_at_call 15; refine (HN'.out _).mono ?_; rintro _ w2 ⟨rfl, hx2⟩; have HX2 := Lib.hid hx2; clear hx2) | (go_at_call 16; refine (HR'.out _).mono ?_; rintro _ _ ⟨rfl, rfl⟩) | (go_at_call 17; refine (width_any _ _).mono ?_; rintro _ w3 ⟨rfl, hx3⟩; have HX3 := Lib.hid hx3; clear hx3) | (go_at_call 18; refine (wd_any _ _).mono ?_; rintro _ _ ⟨rfl, rfl⟩))
    go_ret
    exact ⟨rfl, (HX1.out.trans HX2.out).trans HX3.out⟩
theorem numbers_arg (W : World) (v0 v1 v2 : Value) (h0 : ArgIs Try.prog W 3 v0) (h1 : ArgIs Try.prog W 4 v1) (h2 : ArgIs Try.prog W 2 v2) : Calls Try.prog 4 #[v0, v1, v2] W fun e w' => e = .returned (.bool true) ∧ Ext W w' := by
  obtain ⟨k, rfl, _⟩ := h0.int Try.underlying3
  obtain ⟨nm, rfl⟩ := h1.bool Try.underlying4
  obtain ⟨n, rfl, _⟩ := h2.int Try.underlying2
  exact numbers_walk k nm n W
theorem numR_rng {k n : Int} {nm : Bool} (h : (numR k nm n).2 = 0) : wdR k ≠ 0 ∧ loR k ≤ n ∧ n ≤ hiR k := by
  unfold numR at h
  split at h
  · cases h
  · omega
theorem units_ok {k n : Int} (h5 : k ≠ 5) (hn : (numR k true n).2 = 0) : -65536 ≤ (numR k true n).1 ∧ (numR k true n).1 ≤ 65536 ∧ (n = 0 → (numR k true n).1 = 0) := by
  obtain ⟨h1, h2, h3⟩ := numR_rng hn
  rw [num_norm h1 h2 h3 h5]
  rcases kinds k with rfl | rfl | rfl | rfl | rfl | hk
  · replace h3 : n ≤ 127 := h3; replace h2 : -128 ≤ n := h2
    show -65536 ≤ normV 127 n ∧ normV 127 n ≤ 65536 ∧ (n = 0 → normV 127 n = 0)
    unfold normV; split <;> omega
  · replace h3 : n ≤ 255 := h3; replace h2 : 0 ≤ n := h2
    show -65536 ≤ normV 255 n ∧ normV 255 n ≤ 65536 ∧ (n = 0 → normV 255 n = 0)
    unfold normV; split <;> omega
  · replace h3 : n ≤ 32767 := h3; replace h2 : -32768 ≤ n := h2
    show -65536 ≤ normV 32767 n ∧ normV 32767 n ≤ 65536 ∧ (n = 0 → normV 32767 n = 0)
    unfold normV; split <;> omega
  · replace h3 : n ≤ 65535 := h3; replace h2 : 0 ≤ n := h2
    show -65536 ≤ normV 65535 n ∧ normV 65535 n ≤ 65536 ∧ (n = 0 → normV 65535 n = 0)
    unfold normV; split <;> omega
  · exact absurd rfl h5
  · rw [(kinds_no hk).1] at h1; exact absurd rfl h1
theorem units_mono {k n m : Int} (h5 : k ≠ 5) (hn : (numR k true n).2 = 0) (hm : (numR k true m).2 = 0) (h : n ≤ m) : (numR k true n).1 ≤ (numR k true m).1 := by
  obtain ⟨h1, h2, h3⟩ := numR_rng hn
  obtain ⟨_, h4, h6⟩ := numR_rng hm
  rw [num_norm h1 h2 h3 h5, num_norm h1 h4 h6 h5]
  rcases kinds k with rfl | rfl | rfl | rfl | rfl | hk
  · replace h6 : m ≤ 127 := h6; replace h2 : -128 ≤ n := h2
    show normV 127 n ≤ normV 127 m
    unfold normV; split <;> split <;> omega
  · replace h6 : m ≤ 255 := h6; replace h2 : 0 ≤ n := h2
    show normV 255 n ≤ normV 255 m
    unfold normV; split <;> split <;> omega
  · replace h6 : m ≤ 32767 := h6; replace h2 : -32768 ≤ n := h2
    show normV 32767 n ≤ normV 32767 m
    unfold normV; split <;> split <;> omega
  · replace h6 : m ≤ 65535 := h6; replace h2 : 0 ≤ n := h2
    show normV 65535 n ≤ normV 65535 m
    unfold normV; split <;> split <;> omega
  · exact absurd rfl h5
  · rw [(kinds_no hk).1] at h1; exact absurd rfl h1
set_option maxRecDepth 100000 in
set_option maxHeartbeats 1000000 in
theorem units_walk (k n m : Int) (w : World) : Calls Try.prog 6 #[.int .i64 k, .int .i64 n, .int .i64 m] w fun e w' => e = .returned (.bool true) ∧ Ext w w' := by
  have HN := Lib.hid (num_any k true n)
  have HM := Lib.hid (num_any k true m)
  obtain ⟨x, hx⟩ : ∃ x, (numR k true n).1 = x := ⟨_, rfl⟩
  obtain ⟨y, hy⟩ : ∃ y, (numR k true m).1 = y := ⟨_, rfl⟩
  rcases numR_two k true n with h | h
  · rcases numR_two k true m with h' | h'
    · by_cases h5 : k = 5
      · subst h5
        obtain ⟨_, h1, h2⟩ := numR_rng h
        obtain ⟨_, h3, h4⟩ := numR_rng h'
        replace h1 : -2147483648 ≤ n := h1
        replace h2 : n ≤ 2147483647 := h2
        replace h3 : -2147483648 ≤ m := h3
        replace h4 : m ≤ 2147483647 := h4
        rw [num_fix true h1 h2] at HN
        rw [num_fix true h3 h4] at HM
        have HN' : Hid (∀ w, Calls Try.prog 15 #[.int .i64 5, .bool true, .int .i64 n] w fun e w' => e = .returned (.tuple #[.int .i32 n, .int .i64 0]) ∧ Ext w w') := HN
        have HM' : Hid (∀ w, Calls Try.prog 15 #[.int .i64 5, .bool true, .int .i64 m] w fun e w' => e = .returned (.tuple #[.int .i32 m, .int .i64 0]) ∧ Ext w w') := HM
        have c1 : IntKind.i32.wrap n = n := IntWalk.i32_in _ ⟨by omega, by omega⟩
        have c2 : IntKind.i32.wrap m = m := IntWalk.i32_in _ ⟨by omega, by omega⟩
        clear HN HM h h' hx hy
        go_enter Try.func6, Try.ntmps6
        go_wp2_with (first | (go_at_call 10; refine (wakes_any _).mono ?_; rintro _ w1 ⟨rfl, hx1⟩; have HX1 := Lib.hid hx1; clear hx1) | (go_at_call_of 15 n; refine (HN'.out _).mono ?_; rintro _ w2 ⟨rfl, hx2⟩; have HX2 := Lib.hid hx2; clear hx2) | (go_at_call 15; refine (HM'.out _).mono ?_; rintro _ w3 ⟨rfl, hx3⟩; have HX3 := Lib.hid hx3; clear hx3))
        go_ret
        exact ⟨rfl, (HX1.out.trans HX2.out).trans HX3.out⟩
      · have h5' : (k == 5) = false := by simpa using h5
        obtain ⟨u1, u2, u3⟩ := units_ok h5 h
        have u4 := units_mono h5 h h'
        rw [hx] at u1 u2 u3 u4
        rw [hy] at u4
        rw [hx, h] at HN
        rw [hy, h'] at HM
        clear h h' h5 hx hy
        rcases Int.lt_or_le m n with hnm | hnm
        all_goals try have u4 := u4 hnm
        all_goals by_cases hn0 : n = 0
        all_goals try have u3 := u3 hn0
        all_goals try (have u4 : 0 ≤ y := by omega)
        all_goals have hn0' := Lib.hid hn0
        all_goals try have q0 : (n != 0) = false := by simpa using hn0
        all_goals try have q0 : (n != 0) = true := by simpa using hn0
        all_goals clear hn0
        all_goals
          go_enter Try.func6, Try.ntmps6
          go_wp2_with (first | (go_at_call 10; refine (wakes_any _).mono ?_; rintro _ w1 ⟨rfl, hx1⟩; have HX1 := Lib.hid hx1; clear hx1) | (go_at_call_of 15 n; refine (HN.out _).mono ?_; rintro _ w2 ⟨rfl, hx2⟩; have HX2 := Lib.hid hx2; clear hx2) | (go_at_call 15; refine (HM.out _).mono ?_; rintro _ w3 ⟨rfl, hx3⟩; have HX3 := Lib.hid hx3; clear hx3))
          go_ret
          exact ⟨rfl, (HX1.out.trans HX2.out).trans HX3.out⟩
    · rw [hx, h] at HN
      rw [h'] at HM
      have HM' : Hid (∀ w, Calls Try.prog 15 #[.int .i64 k, .bool true, .int .i64 m] w fun e w' => e = .returned (.tuple #[.int .i32 0, .int .i64 2]) ∧ Ext w w') := HM
      clear h h' HM hx hy
      go_enter Try.func6, Try.ntmps6
      go_wp2_with (first | (go_at_call 10; refine (wakes_any _).mono ?_; rintro _ w1 ⟨rfl, hx1⟩; have HX1 := Lib.hid hx1; clear hx1) | (go_at_call_of 15 n; refine (HN.out _).mono ?_; rintro _ w2 ⟨rfl, hx2⟩; have HX2 := Lib.hid hx2; clear hx2) | (go_at_call 15; refine (HM'.out _).mono ?_; rintro _ w3 ⟨rfl, hx3⟩; have HX3 := Lib.hid hx3; clear hx3))
      all_goals go_ret
      all_goals exact ⟨rfl, (HX1.out.trans HX2.out).trans HX3.out⟩
  · rw [h] at HN
    have HN' : Hid (∀ w, Calls Try.prog 15 #[.int .i64 k, .bool true, .int .i64 n] w fun e w' => e = .returned (.tuple #[.int .i32 0, .int .i64 2]) ∧ Ext w w') := HN
    obtain ⟨z, hz⟩ : ∃ z, (numR k true m).2 = z := ⟨_, rfl⟩
    rw [hy, hz] at HM
    clear h HN hx hy hz
    go_enter Try.func6, Try.ntmps6
    go_wp2_with (first | (go_at_call 10; refine (wakes_any _).mono ?_; rintro _ w1 ⟨rfl, hx1⟩; have HX1 := Lib.hid hx1; clear hx1) | (go_at_call_of 15 n; refine (HN'.out _).mono ?_; rintro _ w2 ⟨rfl, hx2⟩; have HX2 := Lib.hid hx2; clear hx2) | (go_at_call 15; refine (HM.out _).mono ?_; rintro _ w3 ⟨rfl, hx3⟩; have HX3 := Lib.hid hx3; clear hx3))
    all_goals go_ret
    all_goals exact ⟨rfl, (HX1.out.trans HX2.out).trans HX3.out⟩
theorem units_arg (W : World) (v0 v1 v2 : Value) (h0 : ArgIs Try.prog W 3 v0) (h1 : ArgIs Try.prog W 2 v1) (h2 : ArgIs Try.prog W 2 v2) : Calls Try.prog 6 #[v0, v1, v2] W fun e w' => e = .returned (.bool true) ∧ Ext W w' := by
  obtain ⟨k, rfl, _⟩ := h0.int Try.underlying3
  obtain ⟨n, rfl, _⟩ := h1.int Try.underlying2
  obtain ⟨m, rfl, _⟩ := h2.int Try.underlying2
  exact units_walk k n m W
end Go.Proofs.Ytgbcngmciabpkaa
