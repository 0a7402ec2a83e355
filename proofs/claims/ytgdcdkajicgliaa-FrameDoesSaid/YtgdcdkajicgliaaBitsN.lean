/- Plain lemmas on bits of numbers, over no program. No conditions. -/
import Derived.Test.YtgdcdkajicgliaaKit
namespace Go.Proofs.Ytgdcdkajicgliaa
open Go.RowKit
set_option linter.unusedVariables false

theorem wf_u8 {z : Int} (h0 : 0 ≤ z) (h1 : z < 256) : (Lit.int .u8 z).wf = true := by
  simp [Lit.wf, IntKind.min, IntKind.max, IntKind.bits, IntKind.signed]; omega

theorem wraps_u64 (n : Int) (h0 : 0 ≤ n) (h1 : n < 2 ^ 64) : IntKind.u64.wrap n = n := IntWalk.u64_in n ⟨h0, by omega⟩
theorem wraps_u32 (n : Int) (h0 : 0 ≤ n) (h1 : n < 2 ^ 32) : IntKind.u32.wrap n = n := IntWalk.u32_in n ⟨h0, by omega⟩

/-- 'x | y' where the bits of x lie below those of y. -/
theorem or_low (k : IntKind) (j : Nat) (hj : j ≤ k.bits) (hk : ∀ n : Int, 0 ≤ n → n < 2 ^ j → k.wrap n = n) (i : Nat)
    (x y : Int) (hx0 : 0 ≤ x) (hx : x < 2 ^ i) (hx1 : x < 2 ^ j) (hy0 : 0 ≤ y) (hy : y % 2 ^ i = 0) (hy1 : y < 2 ^ j) : bits .or k x y = x + y := by
  obtain ⟨a, rfl⟩ := Int.eq_ofNat_of_zero_le hx0
  obtain ⟨b, rfl⟩ := Int.eq_ofNat_of_zero_le hy0
  have ha : a < 2 ^ j := by exact_mod_cast hx1
  have hb : b < 2 ^ j := by exact_mod_cast hy1
  rw [(bits_nat k j hj hk a b ha hb).2, Nat.or_comm, ← (bits_nat k j hj hk b a hb ha).2, bits_join k j hj hk i b a hy0 hy hy1 hx0 hx hx1]
  omega

theorem two_pow_eight (k : Nat) : (2 : Int) ^ (8 * k) = 256 ^ k := by rw [Int.pow_mul]; rfl

theorem pow256_le (k j : Nat) (h : k ≤ j) : (256 : Int) ^ k ≤ 256 ^ j := by
  have := Nat.pow_le_pow_right (n := 256) (by decide) h
  rw [← Int.ofNat_le, Int.natCast_pow, Int.natCast_pow] at this
  exact this

/-- A byte laid above bytes, in 64 bits. -/
theorem or_byte_u64 (X c : Int) (k : Nat) (hk : k < 8) (hX0 : 0 ≤ X) (hX : X < 256 ^ k) (hc0 : 0 ≤ c) (hc : c < 256) :
    bits .or .u64 X (IntKind.u64.wrap (c * 2 ^ (8 * k))) = X + c * 256 ^ k := by
  have hp : (0 : Int) < 256 ^ k := Int.pow_pos (by decide)
  have h8 : (256 : Int) ^ k * 256 ≤ 2 ^ 64 := by
    have := pow256_le k 7 (by omega)
    omega
  have hcm : c * 256 ^ k ≤ 255 * 256 ^ k := Int.mul_le_mul_of_nonneg_right (by omega) (by omega)
  have hc0' : 0 ≤ c * 256 ^ k := Int.mul_nonneg hc0 (by omega)
  rw [two_pow_eight, wraps_u64 _ hc0' (by omega)]
  refine or_low .u64 64 (by decide) wraps_u64 (8 * k) X _ hX0 ?_ (by omega) hc0' ?_ (by omega)
  · rw [two_pow_eight]; exact hX
  · rw [two_pow_eight]; exact Int.mul_emod_left _ _

theorem or_byte_u32 (X c : Int) (k : Nat) (hk : k < 4) (hX0 : 0 ≤ X) (hX : X < 256 ^ k) (hc0 : 0 ≤ c) (hc : c < 256) :
    bits .or .u32 X (IntKind.u32.wrap (c * 2 ^ (8 * k))) = X + c * 256 ^ k := by
  have hp : (0 : Int) < 256 ^ k := Int.pow_pos (by decide)
  have h8 : (256 : Int) ^ k * 256 ≤ 2 ^ 32 := by
    have := pow256_le k 3 (by omega)
    omega
  have hcm : c * 256 ^ k ≤ 255 * 256 ^ k := Int.mul_le_mul_of_nonneg_right (by omega) (by omega)
  have hc0' : 0 ≤ c * 256 ^ k := Int.mul_nonneg hc0 (by omega)
  rw [two_pow_eight, wraps_u32 _ hc0' (by omega)]
  refine or_low .u32 32 (by decide) wraps_u32 (8 * k) X _ hX0 ?_ (by omega) hc0' ?_ (by omega)
  · rw [two_pow_eight]; exact hX
  · rw [two_pow_eight]; exact Int.mul_emod_left _ _

end Go.Proofs.Ytgdcdkajicgliaa
