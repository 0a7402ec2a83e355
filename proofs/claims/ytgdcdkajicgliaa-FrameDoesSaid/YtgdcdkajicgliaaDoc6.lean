/- The document's small functions: inside, clamp, bit; the bits that Clear mixes. Conditions: each theorem's own premises. -/
import Derived.Test.YtgdcdkajicgliaaDoc5
import Derived.Test.YtgdcdkajicgliaaFra7
namespace Go.Proofs.Ytgdcdkajicgliaa
open Go.RowKit
set_option linter.unusedVariables false
set_option linter.unusedSimpArgs false
set_option maxRecDepth 100000

set_option maxHeartbeats 1000000 in
theorem dinside_any (i fr n : Int) (w : World) : Calls Try.prog 75 #[.int .i64 i, .int .i64 fr, .int .i64 n] w fun e w' => e = .returned (.bool (wiV i fr n)) ∧ w = w' := by
  by_cases h1 : fr ≤ i
  · by_cases h2 : 0 < n
    · have hv := Lib.hid (show wiV i fr n = ltU i fr n by simp [wiV, h1, h2])
      have hv2 := Lib.hid (show ltU i fr n = decide (IntKind.u64.wrap (IntKind.u64.wrap i - IntKind.u64.wrap fr) < IntKind.u64.wrap n) from rfl)
      go_enter Try.func75, Try.ntmps75
      go_wp2
      all_goals go_ret
      all_goals rw [hv.out, hv2.out]
      all_goals exact ⟨by simp_all, rfl⟩
    · have hv := Lib.hid (show wiV i fr n = false by simp [wiV, h2])
      go_enter Try.func75, Try.ntmps75
      go_wp2
      all_goals go_ret
      all_goals rw [hv.out]
      all_goals exact ⟨rfl, rfl⟩
  · have hv := Lib.hid (show wiV i fr n = false by simp [wiV, h1])
    go_enter Try.func75, Try.ntmps75
    go_wp2
    all_goals go_ret
    all_goals rw [hv.out]
    all_goals exact ⟨rfl, rfl⟩
theorem dclamp_any (x : Int) (w : World) : Calls Try.prog 76 #[.int .i32 x] w fun e w' => e = .returned (.int .i32 (clV x)) ∧ w = w' := by
  by_cases h1 : x < 0
  · have hv := Lib.hid (show clV x = 0 by unfold clV; omega)
    go_enter Try.func76, Try.ntmps76
    go_wp2
    all_goals go_ret
    all_goals rw [hv.out]
    all_goals exact ⟨rfl, rfl⟩
  · by_cases h2 : 65536 < x
    · have hv := Lib.hid (show clV x = 65536 by unfold clV; omega)
      go_enter Try.func76, Try.ntmps76
      go_wp2
      all_goals go_ret
      all_goals rw [hv.out]
      all_goals exact ⟨rfl, rfl⟩
    · have hv := Lib.hid (show clV x = x by unfold clV; omega)
      go_enter Try.func76, Try.ntmps76
      go_wp2
      all_goals go_ret
      all_goals rw [hv.out]
      all_goals exact ⟨rfl, rfl⟩
theorem i64_and1 (n : Int) : bits .and .i64 n 1 = n % 2 := by
  have h1 : (BitVec.ofInt 64 1).toNat = 2 ^ 1 - 1 := by decide
  have key : (BitVec.ofInt 64 n &&& BitVec.ofInt 64 1).toNat = (n % ((2 ^ 64 : Nat) : Int)).toNat % 2 ^ 1 := by
    rw [BitVec.toNat_and, BitVec.toNat_ofInt, h1, Nat.and_two_pow_sub_one_eq_mod]
  show IntKind.i64.wrap ((BitVec.ofInt 64 n &&& BitVec.ofInt 64 1).toNat : Nat) = n % 2
  rw [key, IntKind.wrap_i64]
  omega
/-- A bit of a number. -/
def bitV (n : Int) (k : Nat) : Int := n / 2 ^ k % 2
theorem dbit_any (n : Int) (k : Nat) (hk : k < 8) (w : World) : Calls Try.prog 77 #[.int .i64 n, .int .i64 k] w fun e w' => e = .returned (.int .i64 (bitV n k)) ∧ w = w' := by
  have hv : ∀ n k, bitV n k = n / 2 ^ k % 2 := fun _ _ => rfl
  have h7 : k = 0 ∨ k = 1 ∨ k = 2 ∨ k = 3 ∨ k = 4 ∨ k = 5 ∨ k = 6 ∨ k = 7 := by omega
  rcases h7 with rfl | rfl | rfl | rfl | rfl | rfl | rfl | rfl
  all_goals
    go_enter Try.func77, Try.ntmps77
    go_wp2
    go_ret
    refine ⟨?_, rfl⟩
    first
      | (rw [hv, i64_and1]; rfl)
      | (rw [hv]; simp [i64_and1]; done)
/-- What Clear leaves in a stencil's cell. -/
def mixS (c sten wm : Int) : Int := bits .or .i64 (bits .andNot .i64 c wm) (bits .and .i64 sten wm)
theorem mixS_nat (c wm : Nat) (sten : Int) (hc : c < 256) (hw : wm < 256) : mixS c sten wm = (((c &&& (255 - wm)) ||| (byteN sten &&& wm) : Nat) : Int) := by
  unfold mixS
  rw [andNot8 c wm hc hw, and8 sten wm hw, or8 _ _ (Nat.lt_of_le_of_lt Nat.and_le_left hc) (Nat.lt_of_le_of_lt Nat.and_le_left (byteN_lt _))]
theorem mix_bit (c s wm : Nat) (hw : wm < 256) (j : Nat) (hj : j < 8) : ((c &&& (255 - wm)) ||| (s &&& wm)).testBit j = if wm.testBit j then s.testBit j else c.testBit j := by
  rw [Nat.testBit_or, Nat.testBit_and, Nat.testBit_and, show 255 - wm = 2 ^ 8 - (wm + 1) by omega, Nat.testBit_two_pow_sub_succ (by omega)]
  rw [decide_eq_true hj]
  cases wm.testBit j <;> simp
theorem testBit_int (n j : Nat) : ((n / 2 ^ j % 2 : Nat) : Int) = if n.testBit j then 1 else 0 := by
  rw [Nat.testBit_eq_decide_div_mod_eq]
  have h : n / 2 ^ j % 2 = 0 ∨ n / 2 ^ j % 2 = 1 := by omega
  rcases h with h | h <;> rw [h] <;> rfl
theorem bitV_nat (n j : Nat) : bitV (n : Int) j = if n.testBit j then 1 else 0 := by
  rw [← testBit_int]
  unfold bitV
  rw [Int.natCast_emod, Int.natCast_ediv, Int.natCast_pow]
  rfl
theorem bitV_byte (n : Int) {j : Nat} (hj : j < 8) : bitV n j = bitV (byteN n : Int) j := by
  unfold bitV byteN
  have h7 : j = 0 ∨ j = 1 ∨ j = 2 ∨ j = 3 ∨ j = 4 ∨ j = 5 ∨ j = 6 ∨ j = 7 := by omega
  rcases h7 with rfl | rfl | rfl | rfl | rfl | rfl | rfl | rfl <;> simp only [Nat.reducePow, Int.reducePow] <;> omega
/-- What stands in n while Clear mixes bits, from bit j on. -/
def mixA (c sten wm : Int) (j : Nat) : Int := mixS c sten wm / 2 ^ j
theorem mixA_step (c wm sten : Int) (hc : 0 ≤ c ∧ c < 256) (hw : 0 ≤ wm ∧ wm < 256) (j : Nat) (hj : j < 8) : mixA c sten wm j = 2 * mixA c sten wm (j + 1) + (if bitV wm j = 1 then bitV sten j else bitV c j) := by
  obtain ⟨cn, rfl⟩ : ∃ cn : Nat, c = cn := ⟨c.toNat, by omega⟩
  obtain ⟨wn, rfl⟩ : ∃ wn : Nat, wm = wn := ⟨wm.toNat, by omega⟩
  have hb : bitV (mixS cn sten wn) j = (if bitV (wn : Int) j = 1 then bitV sten j else bitV (cn : Int) j) := by
    rw [mixS_nat cn wn sten (by omega) (by omega), bitV_byte sten hj, bitV_nat, bitV_nat, bitV_nat, bitV_nat, mix_bit cn (byteN sten) wn (by omega) j hj]
    cases wn.testBit j <;> simp
  rw [← hb]
  unfold mixA bitV
  generalize mixS cn sten wn = m
  have h7 : j = 0 ∨ j = 1 ∨ j = 2 ∨ j = 3 ∨ j = 4 ∨ j = 5 ∨ j = 6 ∨ j = 7 := by omega
  rcases h7 with rfl | rfl | rfl | rfl | rfl | rfl | rfl | rfl <;> simp only [Nat.reducePow, Int.reducePow, Nat.reduceAdd] <;> omega
theorem mixA_top (c wm sten : Int) (hc : 0 ≤ c ∧ c < 256) (hw : 0 ≤ wm ∧ wm < 256) : mixA c sten wm 8 = 0 := by
  obtain ⟨cn, rfl⟩ : ∃ cn : Nat, c = cn := ⟨c.toNat, by omega⟩
  obtain ⟨wn, rfl⟩ : ∃ wn : Nat, wm = wn := ⟨wm.toNat, by omega⟩
  unfold mixA
  rw [mixS_nat cn wn sten (by omega) (by omega)]
  have : ((cn &&& (255 - wn)) ||| (byteN sten &&& wn)) < 2 ^ 8 := Nat.or_lt_two_pow (Nat.lt_of_le_of_lt Nat.and_le_left (by omega)) (Nat.lt_of_le_of_lt Nat.and_le_left (byteN_lt _))
  generalize ((cn &&& (255 - wn)) ||| (byteN sten &&& wn)) = m at *
  omega
theorem mixA_zero (c wm sten : Int) : mixA c sten wm 0 = mixS c sten wm := by
  unfold mixA
  rw [Int.pow_zero, Int.ediv_one]
theorem mixA_bd (c wm sten : Int) (hc : 0 ≤ c ∧ c < 256) (hw : 0 ≤ wm ∧ wm < 256) : 0 ≤ mixS c sten wm ∧ mixS c sten wm < 256 := by
  obtain ⟨cn, rfl⟩ : ∃ cn : Nat, c = cn := ⟨c.toNat, by omega⟩
  obtain ⟨wn, rfl⟩ : ∃ wn : Nat, wm = wn := ⟨wm.toNat, by omega⟩
  rw [mixS_nat cn wn sten (by omega) (by omega)]
  have : ((cn &&& (255 - wn)) ||| (byteN sten &&& wn)) < 2 ^ 8 := Nat.or_lt_two_pow (Nat.lt_of_le_of_lt Nat.and_le_left (by omega)) (Nat.lt_of_le_of_lt Nat.and_le_left (byteN_lt _))
  omega
end Go.Proofs.Ytgdcdkajicgliaa
