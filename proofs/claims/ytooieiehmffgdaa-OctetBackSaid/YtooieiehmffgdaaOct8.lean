/- Contracts of the reference's Number, Signed and Do. Conditions: each theorem's own premises. -/
import Derived.Test.YtooieiehmffgdaaOct7
namespace Go.Proofs.Ytooieiehmffgdaa
open Go.RowKit
set_option linter.unusedVariables false

theorem leN_drop (l : List Int) (m : Nat) (h : m < l.length) : leN (l.drop m) = l.getD m 0 + 256 * leN (l.drop (m + 1)) := by
  rw [List.drop_eq_getElem_cons h, leN, List.getD_eq_getElem?_getD, List.getElem?_eq_getElem h]; rfl

set_option maxHeartbeats 1000000 in
/-- The reference's Number. -/
theorem refnumber_any (v : Value) (l : List Int) (w : World) (h : Ints .u8 w v l) (hl : l.length ≤ 4) :
    Calls Try.prog 30 #[v] w fun e w' => e = .returned (.int .u64 (leN l)) ∧ w = w' := by
  obtain ⟨a1, k1, rfl⟩ : ∃ a cap, v = .slice a l.length cap := by obtain ⟨⟨_, a, cap, rfl, _⟩, _⟩ := h; exact ⟨a, cap, rfl⟩
  go_enter Try.func30, Try.ntmps30
  go_wp2
  go_loop [3, 4] (fun x i => ∃ j : Nat, j ≤ l.length ∧ i = .int .i64 ((j : Int) - 1) ∧ x = .int .u64 (leN (l.drop j))) (fun _ i => (intOf i + 1).toNat)
  case atStart => exact ⟨l.length, Nat.le_refl _, rfl, by simp [leN]⟩
  case round =>
    obtain ⟨j, hj, rfl, rfl⟩ := hrel
    rcases j with _ | m
    · go_wp2
      go_ret
      exact ⟨rfl, rfl⟩
    · have e1 : ((m + 1 : Nat) : Int) - 1 = (m : Int) := by omega
      rw [e1]
      have hlt : m < l.length := by omega
      obtain ⟨b, off, rfl, hbl, hcell⟩ := h.pos (by omega)
      have hc := hcell m hlt
      have hw := u8_of_wf (h.2 (l.getD m 0) (by rw [List.getD_eq_getElem?_getD, List.getElem?_eq_getElem hlt]; exact List.getElem_mem hlt))
      have hst := Lib.hid (leN_drop l m hlt)
      have hbd := leN_bound (l.drop (m + 1)) fun z hz => u8_of_wf (h.2 z (List.mem_of_mem_drop hz))
      have hbd2 : leN (l.drop (m + 1)) < 16777216 := by
        have := pow256_le (l.drop (m + 1)).length 3 (by simp; omega)
        omega
      have hbd1 := hbd.1
      clear hbd e1 hcell
      generalize leN (l.drop (m + 1)) = y at *
      generalize l.getD m 0 = c at *
      obtain ⟨hw0, hw1⟩ := hw
      go_wp2
      go_round
      case rel => exact ⟨m, by omega, rfl, by rw [hst.out]; first | done | go_num⟩
      case measure => simp [intOf]

/-- Half of what so many bytes hold. -/
def halfN (k : Nat) : Int := 128 * 256 ^ (k - 1)
theorem halfN_one : halfN 1 = 128 := rfl
theorem halfN_succ (k : Nat) (h : 1 ≤ k) : halfN (k + 1) = halfN k * 256 := by
  unfold halfN
  rw [show k + 1 - 1 = (k - 1) + 1 by omega, Int.pow_succ, Int.mul_assoc]
theorem halfN_bd (k : Nat) (h : k ≤ 4) : 128 ≤ halfN k ∧ halfN k ≤ 2147483648 := by
  have : k = 0 ∨ k = 1 ∨ k = 2 ∨ k = 3 ∨ k = 4 := by omega
  rcases this with rfl | rfl | rfl | rfl | rfl <;> decide

/-- The signed number of bytes. -/
def sgnN (l : List Int) : Int := if halfN l.length ≤ leN l then leN l - 2 * halfN l.length else leN l

set_option maxHeartbeats 1000000 in
/-- The reference's Signed. -/
theorem refsigned_any (v : Value) (l : List Int) (w : World) (h : Ints .u8 w v l) (hl : l.length ≤ 4) (h1 : 1 ≤ l.length) :
    Calls Try.prog 31 #[v] w fun e w' => e = .returned (.int .i64 (sgnN l)) ∧ w = w' := by
  obtain ⟨a1, k1, rfl⟩ : ∃ a cap, v = .slice a l.length cap := by obtain ⟨⟨_, a, cap, rfl, _⟩, _⟩ := h; exact ⟨a, cap, rfl⟩
  have hbd := leN_bound l fun z hz => u8_of_wf (h.2 z hz)
  have hbd2 : leN l < 4294967296 := by
    have := pow256_le l.length 4 hl
    omega
  have hbd1 := hbd.1
  clear hbd
  have HS : Hid (∀ y, leN l = y → sgnN l = if halfN l.length ≤ y then y - 2 * halfN l.length else y) := by intro y hy; subst hy; rfl
  generalize hy : leN l = y at *
  have HY := Lib.hid hy; clear hy
  go_enter Try.func31, Try.ntmps31
  go_wp2_with (go_at_call 30; refine (refnumber_any _ l _ h hl).mono ?_; rw [HY.out]; rintro e w1 ⟨rfl, rfl⟩)
  go_loop [4, 5] (fun x i => ∃ k : Nat, 1 ≤ k ∧ k ≤ l.length ∧ i = .int .i64 k ∧ x = .int .i64 (halfN k)) (fun _ i => l.length - (intOf i).toNat)
  case atStart => exact ⟨1, Nat.le_refl _, h1, rfl, rfl⟩
  case round =>
    obtain ⟨k, hk1, hk, rfl, rfl⟩ := hrel
    have hb := halfN_bd k (by omega)
    by_cases hlt : k < l.length
    · have hst := Lib.hid (halfN_succ k hk1)
      have hb2 := halfN_bd (k + 1) (by omega)
      rw [halfN_succ k hk1] at hb2
      generalize halfN k = y2 at *
      go_wp2
      go_round
      case rel => exact ⟨k + 1, by omega, by omega, by go_num, by rw [hst.out]⟩
      case measure => simp [intOf]; omega
    · have hkl : k = l.length := by omega
      subst hkl
      have HS2 := Lib.hid (HS.out y rfl)
      generalize halfN l.length = y2 at *
      by_cases hge : y2 ≤ y
      · go_wp2
        go_ret
        exact ⟨by rw [HS2.out, if_pos hge]; rfl, rfl⟩
      · go_wp2
        go_ret
        exact ⟨by rw [HS2.out, if_neg (by omega)]; rfl, rfl⟩

/-- How many bytes a call takes. -/
def askN (kd n : Int) : Int := if kd = 0 ∨ kd = 3 then 1 else if kd = 1 ∨ kd = 4 then 2 else if kd = 2 ∨ kd = 5 then 4 else n

/-- The number that a call tells. -/
def toldN (kd : Int) (er : Int) (T : List Int × Nat × Int) : Int := if T.2.2 ≠ 0 then 0 else if kd < 3 then leN T.1 else if kd < 6 then sgnN T.1 else 0
def toldB (kd : Int) (T : List Int × Nat × Int) : List Int := if T.2.2 ≠ 0 then [] else if kd = 6 then T.1 else []

theorem u64_i64 (x : Int) (h0 : 0 ≤ x) (h1 : x < 4294967296) : IntKind.i64.wrap x = x := IntWalk.i64_in _ (by omega)

end Go.Proofs.Ytooieiehmffgdaa
