/- Plain facts on bytes of bits, over no program: how a stencil is turned. No conditions. -/
import Derived.Test.YtgdcdkajicgliaaOps2
import Derived.Laws.BitsLemmas
import Derived.Laws.BitsAllLaws
namespace Go.Proofs.Ytgdcdkajicgliaa
open Go.RowKit
set_option linter.unusedVariables false
set_option maxRecDepth 100000

def byteN (x : Int) : Nat := (x % 256).toNat
theorem byteN_lt (x : Int) : byteN x < 256 := by unfold byteN; omega
theorem byteN_nat (b : Nat) (h : b < 256) : byteN (b : Int) = b := by unfold byteN; omega
theorem and8 (x : Int) (m : Nat) (hm : m < 256) : bits .and .i64 x (m : Int) = ((byteN x &&& m : Nat) : Int) := by
  have h1 : ((x % ((2 ^ 64 : Nat) : Int)).toNat &&& m) < 2 ^ 8 := Nat.and_lt_two_pow _ (by omega)
  have key : (BitVec.ofInt 64 x &&& BitVec.ofInt 64 (m : Int)).toNat = byteN x &&& m := by
    rw [BitVec.toNat_and, BitVec.toNat_ofInt, BitVec.ofInt_natCast, BitVec.toNat_ofNat, Nat.mod_eq_of_lt (by omega)]
    rw [← Nat.mod_eq_of_lt h1, Nat.and_mod_two_pow]
    have e1 : (x % ((2 ^ 64 : Nat) : Int)).toNat % 2 ^ 8 = byteN x := by unfold byteN; omega
    have e2 : m % 2 ^ 8 = m := Nat.mod_eq_of_lt (by omega)
    rw [e1, e2]
  have h2 : (byteN x &&& m) < 2 ^ 8 := Nat.and_lt_two_pow _ (by omega)
  show IntKind.i64.wrap ((BitVec.ofInt 64 x &&& BitVec.ofInt 64 (m : Int)).toNat : Int) = _
  rw [key, IntKind.wrap_i64]
  omega
theorem and255 (x : Int) : bits .and .i64 x 255 = (byteN x : Int) := by
  have h := and8 x 255 (by decide)
  have e : byteN x &&& 255 = byteN x := by
    rw [show 255 = 2 ^ 8 - 1 from rfl, Nat.and_two_pow_sub_one_eq_mod]
    exact Nat.mod_eq_of_lt (byteN_lt x)
  rw [e] at h
  exact h
theorem or8 (a b : Nat) (ha : a < 256) (hb : b < 256) : bits .or .i64 (a : Int) (b : Int) = ((a ||| b : Nat) : Int) :=
  (bits_nat .i64 8 (by decide) (fun n h0 h1 => by rw [IntKind.wrap_i64]; omega) a b ha hb).2
theorem andNot8 (s w : Nat) (hs : s < 256) (hw : w < 256) : bits .andNot .i64 (s : Int) (w : Int) = ((s &&& (255 - w) : Nat) : Int) := by
  have h1 : (s &&& (2 ^ 64 - 1 - w)) < 2 ^ 8 := Nat.lt_of_le_of_lt Nat.and_le_left (by omega)
  have key : (BitVec.ofInt 64 (s : Int) &&& ~~~BitVec.ofInt 64 (w : Int)).toNat = s &&& (255 - w) := by
    rw [BitVec.toNat_and, BitVec.toNat_not, BitVec.ofInt_natCast, BitVec.ofInt_natCast, BitVec.toNat_ofNat, BitVec.toNat_ofNat, Nat.mod_eq_of_lt (by omega), Nat.mod_eq_of_lt (by omega)]
    rw [← Nat.mod_eq_of_lt h1, Nat.and_mod_two_pow]
    have e1 : s % 2 ^ 8 = s := Nat.mod_eq_of_lt (by omega)
    have e2 : (2 ^ 64 - 1 - w) % 2 ^ 8 = 255 - w := by omega
    rw [e1, e2]
  have h2 : (s &&& (255 - w)) < 2 ^ 8 := Nat.and_lt_two_pow _ (by omega)
  show IntKind.i64.wrap ((BitVec.ofInt 64 (s : Int) &&& ~~~BitVec.ofInt 64 (w : Int)).toNat : Int) = _
  rw [key, IntKind.wrap_i64]
  omega
theorem inv8 (b : Nat) (h : b < 256) : bits .and .i64 (bits .xor .i64 (-1) (b : Int)) 255 = ((255 - b : Nat) : Int) := by
  have h1 : ∀ b : Fin 256, bits .and .i64 (bits .xor .i64 (-1) (b.val : Int)) 255 = ((255 - b.val : Nat) : Int) := by decide +kernel
  exact h1 ⟨b, h⟩

def mixB (n s w : Nat) : Nat := (n &&& w) ||| (s &&& (255 - w))
theorem mixB_lt (n s w : Nat) (hn : n < 256) (hs : s < 256) (hw : w < 256) : mixB n s w < 256 :=
  Nat.or_lt_two_pow (n := 8) (Nat.lt_of_le_of_lt Nat.and_le_left hn) (Nat.lt_of_le_of_lt Nat.and_le_left hs)
theorem mix8 (n s w : Nat) (hn : n < 256) (hs : s < 256) (hw : w < 256) : bits .or .i64 (bits .and .i64 (n : Int) (w : Int)) (bits .andNot .i64 (s : Int) (w : Int)) = (mixB n s w : Int) := by
  rw [and8 _ _ hw, byteN_nat n hn, andNot8 s w hs hw, or8 _ _ (Nat.lt_of_le_of_lt Nat.and_le_left hn) (Nat.lt_of_le_of_lt Nat.and_le_left hs)]
  rfl
theorem and2p (x i : Nat) : x &&& 2 ^ i = if x.testBit i then 2 ^ i else 0 := by
  rw [nat_bit, Nat.testBit_eq_decide_div_mod_eq]
  have h : x / 2 ^ i % 2 = 0 ∨ x / 2 ^ i % 2 = 1 := by omega
  rcases h with h | h <;> simp [h]
theorem mixB_bit (n s w i : Nat) (hi : i < 8) (hw : w < 256) : mixB n s w &&& 2 ^ i = if w &&& 2 ^ i = 0 then s &&& 2 ^ i else n &&& 2 ^ i := by
  have h : (mixB n s w).testBit i = ((n.testBit i && w.testBit i) || (s.testBit i && !w.testBit i)) := by
    have e : 255 - w = 2 ^ 8 - (w + 1) := by omega
    unfold mixB
    rw [Nat.testBit_or, Nat.testBit_and, Nat.testBit_and, e, Nat.testBit_two_pow_sub_succ (by omega)]
    simp [hi]
  have hp : 0 < 2 ^ i := Nat.two_pow_pos i
  rw [and2p, and2p, and2p, and2p, h]
  cases w.testBit i <;> cases n.testBit i <;> cases s.testBit i <;> simp <;> omega
def rs (n s w : Nat) : Nat → Nat
  | 0 => 0
  | i + 1 => rs n s w i + (if w &&& 2 ^ i = 0 then s &&& 2 ^ i else n &&& 2 ^ i)
def bsum (x : Nat) : Nat → Nat
  | 0 => 0
  | i + 1 => bsum x i + (x &&& 2 ^ i)
theorem rs_bsum (n s w : Nat) (hw : w < 256) : ∀ i, i ≤ 8 → rs n s w i = bsum (mixB n s w) i
  | 0, _ => rfl
  | i + 1, h => by
      show rs n s w i + _ = bsum _ i + _
      rw [rs_bsum n s w hw i (by omega), mixB_bit n s w i (by omega) hw]
theorem bsum_all : ∀ x : Fin 256, bsum x.val 8 = x.val ∧ ∀ i : Fin 9, bsum x.val i.val < 256 := by decide +kernel
theorem rs_lt (n s w : Nat) (hn : n < 256) (hs : s < 256) (hw : w < 256) (i : Nat) (hi : i ≤ 8) : rs n s w i < 256 := by
  rw [rs_bsum n s w hw i hi]
  exact (bsum_all ⟨_, mixB_lt n s w hn hs hw⟩).2 ⟨i, by omega⟩
theorem rs_all (n s w : Nat) (hn : n < 256) (hs : s < 256) (hw : w < 256) : rs n s w 8 = mixB n s w := by
  rw [rs_bsum n s w hw 8 (Nat.le_refl _)]
  exact (bsum_all ⟨_, mixB_lt n s w hn hs hw⟩).1

def nD (how : Int) (b r : Nat) : Nat :=
  if how = 2 then 0 else if how = 3 then r else if how = 4 then (if b < 255 then b + 1 else 255) else if how = 5 then (b + 1) % 256 else if how = 6 then b - 1 else if how = 7 then (b + 255) % 256 else if how = 8 then 255 - b else b
theorem nD_lt (how : Int) (b r : Nat) (hb : b < 256) (hr : r < 256) : nD how b r < 256 := by
  unfold nD
  repeat' split
  all_goals omega
theorem nD_other (how : Int) (b r : Nat) (h : (how == 2) = false ∧ (how == 3) = false ∧ (how == 4) = false ∧ (how == 5) = false ∧ (how == 6) = false ∧ (how == 7) = false ∧ (how == 8) = false) : nD how b r = b := by
  obtain ⟨h2, h3, h4, h5, h6, h7, h8⟩ := h
  simp only [beq_eq_false_iff_ne] at h2 h3 h4 h5 h6 h7 h8
  unfold nD
  rw [if_neg h2, if_neg h3, if_neg h4, if_neg h5, if_neg h6, if_neg h7, if_neg h8]
/-- A stencil, turned. -/
def turnV (how s r w : Int) : Nat := mixB (nD how (byteN s) (byteN r)) (byteN s) (byteN w)
theorem turnV_lt (how s r w : Int) : turnV how s r w < 256 := mixB_lt _ _ _ (nD_lt _ _ _ (byteN_lt _) (byteN_lt _)) (byteN_lt _) (byteN_lt _)
end Go.Proofs.Ytgdcdkajicgliaa
