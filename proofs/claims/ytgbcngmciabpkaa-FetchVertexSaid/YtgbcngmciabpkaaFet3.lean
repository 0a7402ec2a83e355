/- Contracts of fetch.Number whole, the document's Number, Check and the document's Right, the readers of numbers. Conditions: each theorem's own premises. -/
import Derived.Test.YtgbcngmciabpkaaFet2
namespace Go.Proofs.Ytgbcngmciabpkaa
open Go.RowKit
set_option linter.unusedVariables false

theorem wd_pos (k : Int) : wdR k = 0 ∨ 0 < wdR k := by
  unfold wdR
  split
  · right; decide
  · split
    · right; decide
    · split
      · right; decide
      · left; rfl
theorem wd_four {k : Int} (h : 0 < wdR k) (h5 : k ≠ 5) : k = 1 ∨ k = 2 ∨ k = 3 ∨ k = 4 := by
  rcases kinds k with rfl | rfl | rfl | rfl | rfl | hk
  · simp
  · simp
  · simp
  · simp
  · exact absurd rfl h5
  · rw [(kinds_no hk).1] at h; cases h
theorem num_any (k : Int) (nm : Bool) (n : Int) (w : World) : Calls Try.prog 15 #[.int .i64 k, .bool nm, .int .i64 n] w fun e w' => e = .returned (.tuple #[.int .i32 (numR k nm n).1, .int .i64 (numR k nm n).2]) ∧ Ext w w' := by
  rcases wd_pos k with hw | hw
  · rw [num_no nm (.inl hw)]; exact num_bad0 nm n w k hw
  by_cases h1 : n < loR k
  · rw [num_no nm (.inr (.inl h1))]; exact num_bad1 nm n w k hw h1
  by_cases h2 : hiR k < n
  · rw [num_no nm (.inr (.inr h2))]; exact num_bad2 nm n w k hw (by omega) h2
  have g1 : loR k ≤ n := by omega
  have g2 : n ≤ hiR k := by omega
  by_cases h5 : k = 5
  · subst h5; exact num_five nm n w g1 g2
  cases nm
  · rw [num_of (by omega) g1 g2 h5]; exact num_whole false n w k hw g1 g2 h5
  · rw [num_norm (by omega) g1 g2 h5]
    rcases wd_four hw h5 with rfl | rfl | rfl | rfl
    · exact num_norm1 true n w g1 g2
    · exact num_norm2 true n w g1 g2
    · exact num_norm3 true n w g1 g2
    · exact num_norm4 true n w g1 g2
def loE (k : Int) : Int := if wdR k = 0 then -2147483648 else loR k
def hiE (k : Int) : Int := if wdR k = 0 then 2147483647 else hiR k
theorem loE_in {k : Int} (h : 0 < wdR k) : loE k = loR k := by unfold loE; rw [if_neg (by omega)]
theorem hiE_in {k : Int} (h : 0 < wdR k) : hiE k = hiR k := by unfold hiE; rw [if_neg (by omega)]
theorem ends_all (k : Int) (w : World) : Calls Try.prog 32 #[.int .i64 k] w fun e w' => e = .returned (.tuple #[.int .i64 (loE k), .int .i64 (hiE k)]) ∧ w = w' := by
  rcases wd_pos k with hw | hw
  · have hk : k ≠ 1 ∧ k ≠ 2 ∧ k ≠ 3 ∧ k ≠ 4 ∧ k ≠ 5 := by
      refine ⟨?_, ?_, ?_, ?_, ?_⟩
      all_goals (intro h; subst h; cases hw)
    have H1 := Lib.hid (show loE k = -2147483648 by unfold loE; rw [if_pos hw])
    have H2 := Lib.hid (show hiE k = 2147483647 by unfold hiE; rw [if_pos hw])
    obtain ⟨h1, h2, h3, h4, h5⟩ := hk
    have g1 : (k == 1) = false := by simpa using h1
    have g2 : (k == 2) = false := by simpa using h2
    have g3 : (k == 3) = false := by simpa using h3
    have g4 : (k == 4) = false := by simpa using h4
    have g5 : (k == 5) = false := by simpa using h5
    clear h1 h2 h3 h4 h5 hw
    go_enter Try.func32, Try.ntmps32
    go_wp2
    go_ret2
    exact ⟨by rw [H1.out, H2.out]; rfl, rfl⟩
  · rw [loE_in hw, hiE_in hw]
    exact ends_any k hw w
theorem ret_num2 {a b : Int} {c : Bool} (h : a = b) : Ending.returned (.tuple #[.int .i32 a, .bool c]) = .returned (.tuple #[.int .i32 b, .bool c]) := by rw [h]
/-- What the document's Number answers. -/
def numB (k : Int) (nm : Bool) (n : Int) : Bool := (numR k nm n).2 == 0
set_option maxRecDepth 100000 in
theorem rnum_bad0 (n : Int) (w : World) (k : Int) (nm : Bool) (h : wdR k = 0) : Calls Try.prog 16 #[.int .i64 k, .bool nm, .int .i64 n] w fun e w' => e = .returned (.tuple #[.int .i32 0, .bool false]) ∧ w = w' := by
  have HH := Lib.hid h
  clear h
  go_enter Try.func16, Try.ntmps16
  go_wp2_with (first | (go_at_call 32; refine (ends_all _ _).mono ?_; skip; rintro _ _ ⟨rfl, rfl⟩) | (go_at_call 18; refine (wd_any _ _).mono ?_; rw [HH.out]; rintro _ _ ⟨rfl, rfl⟩))
  go_ret2
  exact ⟨rfl, rfl⟩
set_option maxRecDepth 100000 in
theorem rnum_bad1 (n : Int) (w : World) (k : Int) (nm : Bool) (h : 0 < wdR k) (h1 : n < loR k) : Calls Try.prog 16 #[.int .i64 k, .bool nm, .int .i64 n] w fun e w' => e = .returned (.tuple #[.int .i32 0, .bool false]) ∧ w = w' := by
  have HL := Lib.hid (loE_in h)
  have HG := Lib.hid (hiE_in h)
  have h0 : (wdR k == 0) = false := by simp; omega
  obtain ⟨W, hW⟩ : ∃ W, wdR k = W := ⟨_, rfl⟩
  obtain ⟨L, hL⟩ : ∃ L, loR k = L := ⟨_, rfl⟩
  obtain ⟨H, hH⟩ : ∃ H, hiR k = H := ⟨_, rfl⟩
  have HW := Lib.hid hW
  have HL2 := Lib.hid hL
  have HH2 := Lib.hid hH
  rw [hW] at h h0; rw [hL] at h1
  clear hW hL hH
  go_enter Try.func16, Try.ntmps16
  go_wp2_with (first | (go_at_call 32; refine (ends_all _ _).mono ?_; rw [HL.out, HG.out, HL2.out, HH2.out]; rintro _ _ ⟨rfl, rfl⟩) | (go_at_call 18; refine (wd_any _ _).mono ?_; rw [HW.out]; rintro _ _ ⟨rfl, rfl⟩))
  go_ret2
  exact ⟨rfl, rfl⟩
set_option maxRecDepth 100000 in
theorem rnum_bad2 (n : Int) (w : World) (k : Int) (nm : Bool) (h : 0 < wdR k) (h1 : loR k ≤ n) (h2 : hiR k < n) : Calls Try.prog 16 #[.int .i64 k, .bool nm, .int .i64 n] w fun e w' => e = .returned (.tuple #[.int .i32 0, .bool false]) ∧ w = w' := by
  have HL := Lib.hid (loE_in h)
  have HG := Lib.hid (hiE_in h)
  have h0 : (wdR k == 0) = false := by simp; omega
  obtain ⟨W, hW⟩ : ∃ W, wdR k = W := ⟨_, rfl⟩
  obtain ⟨L, hL⟩ : ∃ L, loR k = L := ⟨_, rfl⟩
  obtain ⟨H, hH⟩ : ∃ H, hiR k = H := ⟨_, rfl⟩
  have HW := Lib.hid hW
  have HL2 := Lib.hid hL
  have HH2 := Lib.hid hH
  rw [hW] at h h0; rw [hL] at h1; rw [hH] at h2
  clear hW hL hH
  go_enter Try.func16, Try.ntmps16
  go_wp2_with (first | (go_at_call 32; refine (ends_all _ _).mono ?_; rw [HL.out, HG.out, HL2.out, HH2.out]; rintro _ _ ⟨rfl, rfl⟩) | (go_at_call 18; refine (wd_any _ _).mono ?_; rw [HW.out]; rintro _ _ ⟨rfl, rfl⟩))
  go_ret2
  exact ⟨rfl, rfl⟩
set_option maxRecDepth 100000 in
theorem rnum_five (n : Int) (w : World) (nm : Bool) (h1 : -2147483648 ≤ n) (h2 : n ≤ 2147483647) : Calls Try.prog 16 #[.int .i64 5, .bool nm, .int .i64 n] w fun e w' => e = .returned (.tuple #[.int .i32 n, .bool true]) ∧ w = w' := by
  go_enter Try.func16, Try.ntmps16
  go_wp2_with (first | (go_at_call 32; refine (ends_all _ _).mono ?_; rw [show loE 5 = -2147483648 from rfl, show hiE 5 = 2147483647 from rfl]; rintro _ _ ⟨rfl, rfl⟩) | (go_at_call 18; refine (wd_any _ _).mono ?_; rw [show wdR 5 = 4 from rfl]; rintro _ _ ⟨rfl, rfl⟩))
  go_ret2
  exact ⟨rfl, rfl⟩
set_option maxRecDepth 100000 in
theorem rnum_whole (n : Int) (w : World) (k : Int) (h : 0 < wdR k) (h1 : loR k ≤ n) (h2 : n ≤ hiR k) (h5 : k ≠ 5) : Calls Try.prog 16 #[.int .i64 k, .bool false, .int .i64 n] w fun e w' => e = .returned (.tuple #[.int .i32 (ofV n), .bool true]) ∧ w = w' := by
  have h5' : (k == 5) = false := by simpa using h5
  have hb := hi_in k h5
  have hb1 := hb.1
  have hb2 := hb.2
  clear hb h5
  have hn1 : -100000 ≤ n := by omega
  have hn2 : n ≤ 100000 := by omega
  have HL := Lib.hid (loE_in h)
  have HG := Lib.hid (hiE_in h)
  have h0 : (wdR k == 0) = false := by simp; omega
  obtain ⟨W, hW⟩ : ∃ W, wdR k = W := ⟨_, rfl⟩
  obtain ⟨L, hL⟩ : ∃ L, loR k = L := ⟨_, rfl⟩
  obtain ⟨H, hH⟩ : ∃ H, hiR k = H := ⟨_, rfl⟩
  have HW := Lib.hid hW
  have HL2 := Lib.hid hL
  have HH2 := Lib.hid hH
  rw [hW] at h h0; rw [hL] at h1 hb1; rw [hH] at h2 hb2
  clear hW hL hH
  go_enter Try.func16, Try.ntmps16
  go_wp2_with (first | (go_at_call 32; refine (ends_all _ _).mono ?_; rw [HL.out, HG.out, HL2.out, HH2.out]; rintro _ _ ⟨rfl, rfl⟩) | (go_at_call 18; refine (wd_any _ _).mono ?_; rw [HW.out]; rintro _ _ ⟨rfl, rfl⟩) | (go_at_call 33; refine (rof_any _ _ hn1 hn2).mono ?_; rintro _ _ ⟨rfl, rfl⟩))
  go_ret2
  exact ⟨rfl, rfl⟩
set_option maxRecDepth 100000 in
theorem rnum_norm1 (n : Int) (w : World) (h1 : -128 ≤ n) (h2 : n ≤ 127) : Calls Try.prog 16 #[.int .i64 1, .bool true, .int .i64 n] w fun e w' => e = .returned (.tuple #[.int .i32 (normV 127 n), .bool true]) ∧ w = w' := by
  go_enter Try.func16, Try.ntmps16
  go_wp2_with (first | (go_at_call 32; refine (ends_all _ _).mono ?_; rw [show loE 1 = -128 from rfl, show hiE 1 = 127 from rfl]; rintro _ _ ⟨rfl, rfl⟩) | (go_at_call 18; refine (wd_any _ _).mono ?_; rw [show wdR 1 = 1 from rfl]; rintro _ _ ⟨rfl, rfl⟩))
  all_goals go_ret2
  all_goals refine ⟨ret_num2 ?_, rfl⟩
  all_goals unfold normV
  all_goals obtain ⟨e, he, he1, he2⟩ : ∃ e, (-n * 131072 + 127) / 254 = e ∧ -70000 ≤ e ∧ e ≤ 70000 := ⟨_, rfl, by omega, by omega⟩
  all_goals rw [show (2 : Int) * 127 = 254 from rfl]
  all_goals rw [he]
  all_goals (split <;> omega)
set_option maxRecDepth 100000 in
theorem rnum_norm2 (n : Int) (w : World) (h1 : 0 ≤ n) (h2 : n ≤ 255) : Calls Try.prog 16 #[.int .i64 2, .bool true, .int .i64 n] w fun e w' => e = .returned (.tuple #[.int .i32 (normV 255 n), .bool true]) ∧ w = w' := by
  go_enter Try.func16, Try.ntmps16
  go_wp2_with (first | (go_at_call 32; refine (ends_all _ _).mono ?_; rw [show loE 2 = 0 from rfl, show hiE 2 = 255 from rfl]; rintro _ _ ⟨rfl, rfl⟩) | (go_at_call 18; refine (wd_any _ _).mono ?_; rw [show wdR 2 = 1 from rfl]; rintro _ _ ⟨rfl, rfl⟩))
  all_goals go_ret2
  all_goals refine ⟨ret_num2 ?_, rfl⟩
  all_goals unfold normV
  all_goals obtain ⟨e, he, he1, he2⟩ : ∃ e, (-n * 131072 + 255) / 510 = e ∧ -70000 ≤ e ∧ e ≤ 70000 := ⟨_, rfl, by omega, by omega⟩
  all_goals rw [show (2 : Int) * 255 = 510 from rfl]
  all_goals rw [he]
  all_goals (split <;> omega)
set_option maxRecDepth 100000 in
theorem rnum_norm3 (n : Int) (w : World) (h1 : -32768 ≤ n) (h2 : n ≤ 32767) : Calls Try.prog 16 #[.int .i64 3, .bool true, .int .i64 n] w fun e w' => e = .returned (.tuple #[.int .i32 (normV 32767 n), .bool true]) ∧ w = w' := by
  go_enter Try.func16, Try.ntmps16
  go_wp2_with (first | (go_at_call 32; refine (ends_all _ _).mono ?_; rw [show loE 3 = -32768 from rfl, show hiE 3 = 32767 from rfl]; rintro _ _ ⟨rfl, rfl⟩) | (go_at_call 18; refine (wd_any _ _).mono ?_; rw [show wdR 3 = 2 from rfl]; rintro _ _ ⟨rfl, rfl⟩))
  all_goals go_ret2
  all_goals refine ⟨ret_num2 ?_, rfl⟩
  all_goals unfold normV
  all_goals obtain ⟨e, he, he1, he2⟩ : ∃ e, (-n * 131072 + 32767) / 65534 = e ∧ -70000 ≤ e ∧ e ≤ 70000 := ⟨_, rfl, by omega, by omega⟩
  all_goals rw [show (2 : Int) * 32767 = 65534 from rfl]
  all_goals rw [he]
  all_goals (split <;> omega)
set_option maxRecDepth 100000 in
theorem rnum_norm4 (n : Int) (w : World) (h1 : 0 ≤ n) (h2 : n ≤ 65535) : Calls Try.prog 16 #[.int .i64 4, .bool true, .int .i64 n] w fun e w' => e = .returned (.tuple #[.int .i32 (normV 65535 n), .bool true]) ∧ w = w' := by
  go_enter Try.func16, Try.ntmps16
  go_wp2_with (first | (go_at_call 32; refine (ends_all _ _).mono ?_; rw [show loE 4 = 0 from rfl, show hiE 4 = 65535 from rfl]; rintro _ _ ⟨rfl, rfl⟩) | (go_at_call 18; refine (wd_any _ _).mono ?_; rw [show wdR 4 = 2 from rfl]; rintro _ _ ⟨rfl, rfl⟩))
  all_goals go_ret2
  all_goals refine ⟨ret_num2 ?_, rfl⟩
  all_goals unfold normV
  all_goals obtain ⟨e, he, he1, he2⟩ : ∃ e, (-n * 131072 + 65535) / 131070 = e ∧ -70000 ≤ e ∧ e ≤ 70000 := ⟨_, rfl, by omega, by omega⟩
  all_goals rw [show (2 : Int) * 65535 = 131070 from rfl]
  all_goals rw [he]
  all_goals (split <;> omega)
theorem rnum_any (k : Int) (nm : Bool) (n : Int) (w : World) : Calls Try.prog 16 #[.int .i64 k, .bool nm, .int .i64 n] w fun e w' => e = .returned (.tuple #[.int .i32 (numR k nm n).1, .bool (numB k nm n)]) ∧ w = w' := by
  unfold numB
  rcases wd_pos k with hw | hw
  · rw [num_no nm (.inl hw)]; exact rnum_bad0 n w k nm hw
  by_cases h1 : n < loR k
  · rw [num_no nm (.inr (.inl h1))]; exact rnum_bad1 n w k nm hw h1
  by_cases h2 : hiR k < n
  · rw [num_no nm (.inr (.inr h2))]; exact rnum_bad2 n w k nm hw (by omega) h2
  have g1 : loR k ≤ n := by omega
  have g2 : n ≤ hiR k := by omega
  by_cases h5 : k = 5
  · subst h5; rw [num_fix nm g1 g2]; exact rnum_five n w nm g1 g2
  cases nm
  · rw [num_of (by omega) g1 g2 h5]; exact rnum_whole n w k hw g1 g2 h5
  · rw [num_norm (by omega) g1 g2 h5]
    rcases wd_four hw h5 with rfl | rfl | rfl | rfl
    · exact rnum_norm1 n w g1 g2
    · exact rnum_norm2 n w g1 g2
    · exact rnum_norm3 n w g1 g2
    · exact rnum_norm4 n w g1 g2
end Go.Proofs.Ytgbcngmciabpkaa
