/- Contract of shared. Conditions: each theorem's own premises. -/
import Derived.Test.YtgbcngmciabpkaaFet25
namespace Go.Proofs.Ytgbcngmciabpkaa
open Go.RowKit Go.ChangeShapes
set_option linter.unusedVariables false

theorem Ix3 (v i : Value) : Instr.index 49 v i = @Classical.epsilon _ neF (IxF 49 v i) := IxF_eq _ _ _
theorem ix3 (a0 a1 a2 : Int) (m : Nat) (hm : m < 3) (w : World) : (@Classical.epsilon _ neF (IxF 49 (.agg #[.int .i64 a0, .int .i64 a1, .int .i64 a2]) (.int .i64 m))).run Try.prog w = .ok (.int .i64 ([a0, a1, a2].getD m 0)) w :=
  ixF_one Try.underlying49 Try.underlying3 rfl rfl _ m hm _ _ (by
    have : m = 0 ∨ m = 1 ∨ m = 2 := by omega
    rcases this with rfl | rfl | rfl <;> rfl) w
def cI (x b0 b1 b2 : Int) (j : Nat) : Nat := if j = 0 then 0 else if j = 1 then eqN x b0 else if j = 2 then eqN x b0 + eqN x b1 else eqN x b0 + eqN x b1 + eqN x b2
theorem cI_succ (x b0 b1 b2 : Int) (j : Nat) (hj : j < 3) : cI x b0 b1 b2 (j + 1) = cI x b0 b1 b2 j + eqN x ([b0, b1, b2].getD j 0) := by
  have : j = 0 ∨ j = 1 ∨ j = 2 := by omega
  rcases this with rfl | rfl | rfl <;> simp [cI]
def cO (a0 a1 a2 b0 b1 b2 : Int) (i : Nat) : Nat := if i = 0 then 0 else if i = 1 then cI a0 b0 b1 b2 3 else if i = 2 then cI a0 b0 b1 b2 3 + cI a1 b0 b1 b2 3 else cI a0 b0 b1 b2 3 + cI a1 b0 b1 b2 3 + cI a2 b0 b1 b2 3
theorem cO_succ (a0 a1 a2 b0 b1 b2 : Int) (i : Nat) (hi : i < 3) : cO a0 a1 a2 b0 b1 b2 (i + 1) = cO a0 a1 a2 b0 b1 b2 i + cI ([a0, a1, a2].getD i 0) b0 b1 b2 3 := by
  have : i = 0 ∨ i = 1 ∨ i = 2 := by omega
  rcases this with rfl | rfl | rfl <;> simp [cO]
theorem cO_three (a0 a1 a2 b0 b1 b2 : Int) : cO a0 a1 a2 b0 b1 b2 3 = shN a0 a1 a2 b0 b1 b2 := rfl
theorem eqN_le (x y : Int) : eqN x y ≤ 1 := by unfold eqN; split <;> omega
theorem cI_le (x b0 b1 b2 : Int) (j : Nat) : cI x b0 b1 b2 j ≤ 3 := by
  have h0 := eqN_le x b0
  have h1 := eqN_le x b1
  have h2 := eqN_le x b2
  unfold cI; repeat' split
  all_goals omega
theorem cO_le (a0 a1 a2 b0 b1 b2 : Int) (i : Nat) : cO a0 a1 a2 b0 b1 b2 i ≤ 9 := by
  have h0 := cI_le a0 b0 b1 b2 3
  have h1 := cI_le a1 b0 b1 b2 3
  have h2 := cI_le a2 b0 b1 b2 3
  unfold cO; repeat' split
  all_goals omega
attribute [local go_sem ↓] Ix3
set_option maxRecDepth 100000 in
set_option maxHeartbeats 2000000 in
theorem shared_any (s a0 a1 a2 s' b0 b1 b2 : Int) (w : World) : Calls Try.prog 21 #[.agg #[.int .i64 s, .int .i64 a0, .int .i64 a1, .int .i64 a2], .agg #[.int .i64 s', .int .i64 b0, .int .i64 b1, .int .i64 b2]] w fun e w' => e = .returned (.int .i64 (shN a0 a1 a2 b0 b1 b2 : Nat)) ∧ Ext w w' := by
  obtain ⟨w0, hw0, h1, h2, hx⟩ : ∃ w0, (w.alloc (.cells #[.int .i64 s, .int .i64 a0, .int .i64 a1, .int .i64 a2] 51)).alloc (.cells #[.int .i64 s', .int .i64 b0, .int .i64 b1, .int .i64 b2] 51) = w0 ∧ w0.heap[w.heap.size]? = some (.cells #[.int .i64 s, .int .i64 a0, .int .i64 a1, .int .i64 a2] 51 (0, 0)) ∧ w0.heap[w.heap.size + 1]? = some (.cells #[.int .i64 s', .int .i64 b0, .int .i64 b1, .int .i64 b2] 51 (0, 0)) ∧ Ext w w0 :=
    ⟨_, rfl, (heap_pair _ _ _).1, (heap_pair _ _ _).2, ((Ext.refl _).alloc _).alloc _⟩
  have HW := Lib.hid hw0
  have HX := Lib.hid hx
  have n1 := heap_lt h1
  have n2 := heap_lt h2
  clear hw0 hx
  go_enter Try.func21, Try.ntmps21
  go_upto_region 1 with fail
  rw [HW.out]
  generalize w.heap.size = b at *
  clear HW
  have c1 : w0.cell? ⟨b, 1, none⟩ = some (.int .i64 a0) := cell_of_heap h1 rfl
  have c2 : w0.cell? ⟨b, 2, none⟩ = some (.int .i64 a1) := cell_of_heap h1 rfl
  have c3 : w0.cell? ⟨b, 3, none⟩ = some (.int .i64 a2) := cell_of_heap h1 rfl
  have d1 : w0.cell? ⟨b + 1, 1, none⟩ = some (.int .i64 b0) := cell_of_heap h2 rfl
  have d2 : w0.cell? ⟨b + 1, 2, none⟩ = some (.int .i64 b1) := cell_of_heap h2 rfl
  have d3 : w0.cell? ⟨b + 1, 3, none⟩ = some (.int .i64 b2) := cell_of_heap h2 rfl
  go_wp2_with fail
  go_loop [5, 12] (fun c i => ∃ m : Nat, m ≤ 3 ∧ i = .int .i64 m ∧ c = .int .i64 (cO a0 a1 a2 b0 b1 b2 m : Nat)) (fun _ i => 3 - (intOf i).toNat)
  case atStart => exact ⟨0, by omega, rfl, rfl⟩
  case round =>
    obtain ⟨m, hm, rfl, rfl⟩ := hrel
    by_cases hlt : m < 3
    · have hix := ix3 a0 a1 a2 m hlt w0
      have HS := Lib.hid (cO_succ a0 a1 a2 b0 b1 b2 m hlt)
      have hcl := cO_le a0 a1 a2 b0 b1 b2 m
      have hmi : (m : Int) < 3 := by omega
      generalize cO a0 a1 a2 b0 b1 b2 m = C at *
      generalize [a0, a1, a2].getD m 0 = x at *
      go_wp2_with fail
      go_loop [5, 17] (fun c i => ∃ j : Nat, j ≤ 3 ∧ i = .int .i64 j ∧ c = .int .i64 (C + cI x b0 b1 b2 j : Nat)) (fun _ i => 3 - (intOf i).toNat)
      case atStart => exact ⟨0, by omega, rfl, rfl⟩
      case round =>
        obtain ⟨j, hj, rfl, rfl⟩ := hrel
        by_cases hlt2 : j < 3
        · have hiy := ix3 b0 b1 b2 j hlt2 w0
          have HT := Lib.hid (cI_succ x b0 b1 b2 j hlt2)
          have hil := cI_le x b0 b1 b2 j
          have hji : (j : Int) < 3 := by omega
          generalize cI x b0 b1 b2 j = D at *
          generalize [b0, b1, b2].getD j 0 = y at *
          by_cases hxy : x = y
          · subst hxy
            have HE := Lib.hid (show eqN x x = 1 from if_pos rfl)
            go_wp2_with fail
            go_round
            case rel => exact ⟨j + 1, by omega, by go_num, by rw [HT.out, HE.out]; go_num⟩
            case measure => simp [intOf]; omega
          · have HE := Lib.hid (show eqN x y = 0 from if_neg hxy)
            have hxy' : (x == y) = false := by simpa using hxy
            clear hxy
            go_wp2_with fail
            go_round
            case rel => exact ⟨j + 1, by omega, by go_num, by rw [HT.out, HE.out]; go_num⟩
            case measure => simp [intOf]; omega
        · obtain rfl : j = 3 := by omega
          go_wp2_with fail
          go_round
          case rel => exact ⟨m + 1, by omega, by go_num, by rw [HS.out]⟩
          case measure => simp [intOf]; omega
    · obtain rfl : m = 3 := by omega
      go_wp2_with fail
      go_ret
      exact ⟨by rw [cO_three]; rfl, HX.out⟩
end Go.Proofs.Ytgbcngmciabpkaa
