/- The laws' wakes, few and kind. Conditions: each theorem's own premises. -/
import Derived.Test.YtdomijfkpbganaaNam3
namespace Go.Proofs.Ytdomijfkpbganaa
open Go.RowKit
set_option linter.unusedVariables false

/-- What is done. -/
def kindR (k : Int) : Int := if k % 4 = 0 then 0 else if k % 4 = 3 then 2 else 1

theorem kind_at0 (w : World) : (Instr.index 54 (.agg #[.int .i64 0, .int .i64 1, .int .i64 1, .int .i64 2]) (.int .u64 0)).run Try.prog w = .ok (.int .i64 0) w := by kernel_rfl
theorem kind_at1 (w : World) : (Instr.index 54 (.agg #[.int .i64 0, .int .i64 1, .int .i64 1, .int .i64 2]) (.int .u64 1)).run Try.prog w = .ok (.int .i64 1) w := by kernel_rfl
theorem kind_at2 (w : World) : (Instr.index 54 (.agg #[.int .i64 0, .int .i64 1, .int .i64 1, .int .i64 2]) (.int .u64 2)).run Try.prog w = .ok (.int .i64 1) w := by kernel_rfl
theorem kind_at3 (w : World) : (Instr.index 54 (.agg #[.int .i64 0, .int .i64 1, .int .i64 1, .int .i64 2]) (.int .u64 3)).run Try.prog w = .ok (.int .i64 2) w := by kernel_rfl
theorem kind_at (r : Nat) (hr : r < 4) (w : World) : (Instr.index 54 (.agg #[.int .i64 0, .int .i64 1, .int .i64 1, .int .i64 2]) (.int .u64 (r : Int))).run Try.prog w = .ok (.int .i64 (kindR r)) w := by
  have h : r = 0 ∨ r = 1 ∨ r = 2 ∨ r = 3 := by omega
  rcases h with h | h | h | h <;> subst h
  · exact kind_at0 w
  · exact kind_at1 w
  · exact kind_at2 w
  · exact kind_at3 w
theorem kind_mod (k : Int) : ∃ r : Nat, r < 4 ∧ (IntKind.u64.wrap k).tmod 4 = (r : Int) ∧ kindR k = kindR r := by
  have h : IntKind.u64.wrap k = k % 18446744073709551616 := by
    simp [IntKind.wrap, IntKind.bits, IntKind.signed]
  refine ⟨(k % 4).toNat, by omega, ?_, ?_⟩
  · rw [h, Int.tmod_eq_emod_of_nonneg (by omega)]
    omega
  · unfold kindR
    rw [Int.toNat_of_nonneg (by omega)]
    simp

theorem kind_any (k n : Int) (w : World) : Calls Try.prog 11 #[.agg #[.int .i64 k, .int .i64 n]] w fun e w' => e = .returned (.int .i64 (kindR k)) ∧ Ext w w' := by
  obtain ⟨r, hr, hm, hk⟩ := kind_mod k
  have hat := kind_at r hr
  have HK := Lib.hid hk
  clear hk hr
  generalize kindR r = v at *
  go_enter Try.func11, Try.ntmps11
  go_wp2
  go_ret
  exact ⟨by rw [HK.out]; rfl, (Ext.refl _).alloc _⟩


/-- The rows of what is done, as kinds and numbers. -/
def OpsAt (w : World) (v : Value) (os : List (Int × Int)) : Prop := SlC w v 2 os.length (os.map fun o => [Value.int .i64 o.1, Value.int .i64 o.2]).flatten

theorem flat_take {α : Type} (f : α → List Value) (sz : Nat) (hf : ∀ x, (f x).length = sz) : ∀ (l : List α) (n : Nat), (l.map f).flatten.take (n * sz) = ((l.take n).map f).flatten
  | [], n => by simp
  | x :: l, 0 => by simp
  | x :: l, n + 1 => by
    rw [List.map_cons, List.flatten_cons, List.take_succ_cons, List.map_cons, List.flatten_cons, List.take_append, hf, ← flat_take f sz hf l n, List.take_of_length_le (by rw [hf, Nat.succ_mul]; omega)]
    congr 2
    rw [Nat.succ_mul]; omega
theorem OpsAt.cut {w : World} {a : Option Addr} {cap : Nat} {os : List (Int × Int)} (h : OpsAt w (.slice a os.length cap) os) (n : Nat) (hn : n ≤ os.length) : OpsAt w (.slice a n cap) (os.take n) := by
  have := SlC.cut h 0 n (by omega) hn
  have e1 : (if cap = 0 then a else a.map (·.add (0 * 2))) = a := by
    cases a with
    | none => simp
    | some x => simp [Addr.add]
  rw [e1] at this
  simp only [Nat.sub_zero, Nat.zero_mul, List.drop_zero] at this
  rw [flat_take _ 2 (fun _ => rfl)] at this
  unfold OpsAt
  rw [List.length_take, Nat.min_eq_left hn]
  exact this

theorem few_any (w : World) (v : Value) (os : List (Int × Int)) (h : OpsAt w v os) : Calls Try.prog 10 #[v] w fun e w' => ∃ u, e = .returned u ∧ (∀ w0, OpsAt w0 v os → OpsAt w0 u (os.take 200)) ∧ w = w' := by
  have H := Lib.hid h
  obtain ⟨hl, a, cap, rfl, h1, h2, h3, h4⟩ := h
  have hc : cap ≤ 9223372036854775807 := h2
  clear hl h3 h4 h2
  by_cases hn : os.length ≤ 200
  · go_enter Try.func10, Try.ntmps10
    go_wp2
    go_ret
    exact ⟨_, rfl, fun w0 h0 => by rw [List.take_of_length_le hn]; exact h0, rfl⟩
  · have hn' : 200 < os.length := by omega
    have hc' : 200 ≤ cap := by omega
    clear hn
    go_enter Try.func10, Try.ntmps10
    go_wp2
    go_ret
    exact ⟨.slice a 200 cap, rfl, fun w0 h0 => h0.cut 200 (by omega), rfl⟩

set_option maxHeartbeats 1000000 in
theorem wakes_any (w : World) : Calls Try.prog 8 #[] w fun e w' => e = .returned (.bool true) ∧ Ext w w' := by
  obtain ⟨L1, L2, hG, hB, h1, h2, h3⟩ : ∃ L1 L2, Hid (genR (List.replicate 65 0) 2 = ([1, 2], 0, L1)) ∧ Hid (bindR L1 0 1 = (true, 0, L2, 1)) ∧ (stOf L2 1 == 2) = true ∧ (stOf L2 2 == 2) = false ∧ (stOf L2 2 != 0) = true :=
    ⟨[0, 1, 1] ++ List.replicate 62 0, [0, 2, 1] ++ List.replicate 62 0, Lib.hid (by decide +kernel), Lib.hid (by decide +kernel), by decide +kernel, by decide +kernel, by decide +kernel⟩
  go_enter Try.func8, Try.ntmps8
  go_wp2_with (go_at_call 9; refine (new_any _).mono ?_; rintro e w1 ⟨p, rfl, hp, hn, hx⟩)
  have hG' := gen_any p _ 0 2 w1 hn
  rw [hG.out] at hG'
  simp only [List.length_cons, List.length_nil, Nat.zero_add, Nat.reduceAdd, natV, List.map_cons, List.map_nil] at hG'
  go_wp2_with (go_at_call 12; refine hG'.mono ?_; rintro e w2 ⟨a, c, rfl, ho, hn2, hx2⟩)
  have hB' := bind_any p _ 0 1 w2 hn2
  rw [hB.out] at hB'
  obtain ⟨b, off, rfl, hb, hbp, hcell⟩ : ∃ b off, a = some ⟨b, off, none⟩ ∧ b < w2.heap.size ∧ b ≠ p ∧ w2.cell? ⟨b, off + 1, none⟩ = some (.int .i64 2) := by
    obtain ⟨_, a', c', he, _, _, _, h4⟩ := SlC.owned ho
    obtain ⟨b, off, rfl, hb, hc⟩ := h4 (by omega)
    cases he
    refine ⟨b, off, rfl, hb, ?_, hc 1 _ rfl⟩
    have := (ho.lt b rfl).1
    have := hn.lt
    omega
  go_wp2_with (first | (go_at_call 13; refine hB'.mono ?_; rintro e w3 ⟨rfl, hn3, hx3⟩; have hcell3 := hx3.cell (by simpa using hbp) hcell) | (go_at_call 17; refine (is_any p _ 1 _ _ hn3).mono ?_; rintro e w4 ⟨rfl, rfl⟩) | (go_at_call 15; refine (used_any p _ 1 _ _ hn3).mono ?_; rintro e w4 ⟨rfl, rfl⟩) | (go_at_call 18; refine (bound_any p _ 1 _ hn3).mono ?_; rintro e w4 ⟨rfl, rfl⟩))
  go_ret
  exact ⟨rfl, (hx.chgTrans hx2 (by simp; omega)).chgTrans hx3 (by simp; omega)⟩

end Go.Proofs.Ytdomijfkpbganaa
