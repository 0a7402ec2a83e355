/- Contracts of ops' Compare, in, outside and the document's Compare, byteOf, unit. Conditions: each theorem's own premises. Contracts of fix' and the document's numbers. Conditions: each theorem's own premises. Plain facts on bytes of bits, over no program: how a stencil is turned. No conditions. Contracts of ops' Turn and the document's. Conditions: each theorem's own premises. Contract of the document's Turn. Conditions: each theorem's own premises. Contracts of slices.IndexFunc and ContainsFunc at 'outside'. Conditions: each theorem's own premises. -/
import Derived.Test.YtgdcdkajicgliaaRows
import Derived.Test.YtgdcdkajicgliaaBitsN
import Derived.Test.YtgdcdkajicgliaaBlk
import Derived.Test.YtgdcdkajicgliaaOpen
import Derived.Lib.Hide
import Derived.Deep.RegionWith
import Derived.Deep.RegionHeld3
import Derived.Deep.DrawnRows
import Derived.Laws.BitsLemmas
import Derived.Laws.BitsAllLaws
namespace Go.Proofs.Ytgdcdkajicgliaa
open Go.RowKit
set_option linter.unusedVariables false
set_option maxRecDepth 100000

/-- Does a comparison hold? -/
def cmpV (how a b : Int) : Bool :=
  if how = 2 then decide (a < b) else if how = 3 then a == b else if how = 4 then decide (a ≤ b) else if how = 5 then decide (b < a) else if how = 6 then a != b else if how = 7 then decide (b ≤ a) else how == 8
theorem how_cases (how : Int) : how = 2 ∨ how = 3 ∨ how = 4 ∨ how = 5 ∨ how = 6 ∨ how = 7 ∨ how = 8 ∨ ((how == 2) = false ∧ (how == 3) = false ∧ (how == 4) = false ∧ (how == 5) = false ∧ (how == 6) = false ∧ (how == 7) = false ∧ (how == 8) = false) := by
  by_cases h : 2 ≤ how ∧ how ≤ 8
  · omega
  · right; right; right; right; right; right; right
    refine ⟨?_, ?_, ?_, ?_, ?_, ?_, ?_⟩ <;> (simp; omega)
theorem cmpV_other (how a b : Int) (h : (how == 2) = false ∧ (how == 3) = false ∧ (how == 4) = false ∧ (how == 5) = false ∧ (how == 6) = false ∧ (how == 7) = false ∧ (how == 8) = false) : cmpV how a b = false := by
  obtain ⟨h2, h3, h4, h5, h6, h7, h8⟩ := h
  simp only [beq_eq_false_iff_ne] at h2 h3 h4 h5 h6 h7
  unfold cmpV
  rw [if_neg h2, if_neg h3, if_neg h4, if_neg h5, if_neg h6, if_neg h7, h8]
set_option maxHeartbeats 1000000 in
theorem compare_any (how a b : Int) (w : World) : Calls Try.prog 99 #[.int .i64 how, .int .i64 a, .int .i64 b] w fun e w' => e = .returned (.bool (cmpV how a b)) ∧ w = w' := by
  rcases how_cases how with rfl | rfl | rfl | rfl | rfl | rfl | rfl | h
  iterate 7
    · go_enter Try.func99, Try.ntmps99
      go_wp2
      go_ret
      exact ⟨rfl, rfl⟩
  have hv := Lib.hid (cmpV_other how a b h)
  obtain ⟨h2, h3, h4, h5, h6, h7, h8⟩ := h
  go_enter Try.func99, Try.ntmps99
  go_wp2
  go_ret
  rw [hv.out]
  exact ⟨rfl, rfl⟩
set_option maxHeartbeats 2000000 in
set_option maxRecDepth 20000 in
theorem refcompare_any (how a b : Int) (w : World) : Calls Try.prog 107 #[.int .i64 how, .int .i64 a, .int .i64 b] w fun e w' => e = .returned (.bool (cmpV how a b)) ∧ w = w' := by
  rcases how_cases how with rfl | rfl | rfl | rfl | rfl | rfl | rfl | h
  iterate 7
    · go_enter Try.func107, Try.ntmps107
      go_wp2
      all_goals go_ret
      all_goals first | exact ⟨rfl, rfl⟩ | exact ⟨by simp_all [cmpV], rfl⟩
  have hv := Lib.hid (cmpV_other how a b h)
  obtain ⟨h2, h3, h4, h5, h6, h7, h8⟩ := h
  go_enter Try.func107, Try.ntmps107
  go_wp2
  all_goals go_ret
  all_goals rw [hv.out]
  all_goals exact ⟨rfl, rfl⟩

def inV (n low high : Int) : Bool := decide (low ≤ n) && decide (n ≤ high)
theorem in_any (n low high : Int) (w : World) : Calls Try.prog 86 #[.int .i64 n, .int .i64 low, .int .i64 high] w fun e w' => e = .returned (.bool (inV n low high)) ∧ w = w' := by
  by_cases h1 : low ≤ n
  · have hv := Lib.hid (show inV n low high = decide (n ≤ high) by simp [inV, h1])
    go_enter Try.func86, Try.ntmps86
    go_wp2
    all_goals go_ret
    all_goals rw [hv.out]
    all_goals exact ⟨by simp_all, rfl⟩
  · have hv := Lib.hid (show inV n low high = false by simp [inV, h1])
    go_enter Try.func86, Try.ntmps86
    go_wp2
    all_goals go_ret
    all_goals rw [hv.out]
    all_goals exact ⟨by simp_all, rfl⟩
def outV (x : Int) : Bool := decide (x < 0) || decide (65536 < x)
theorem outside_any (x : Int) (w : World) : Calls Try.prog 88 #[.int .i32 x] w fun e w' => e = .returned (.bool (outV x)) ∧ w = w' := by
  by_cases h1 : x < 0
  · have hv := Lib.hid (show outV x = true by simp [outV, h1])
    go_enter Try.func88, Try.ntmps88
    go_wp2
    all_goals go_ret
    all_goals rw [hv.out]
    all_goals exact ⟨by simp_all, rfl⟩
  · have hv := Lib.hid (show outV x = decide (65536 < x) by simp [outV, h1])
    go_enter Try.func88, Try.ntmps88
    go_wp2
    all_goals go_ret
    all_goals rw [hv.out]
    all_goals exact ⟨by simp_all, rfl⟩
end Go.Proofs.Ytgdcdkajicgliaa
namespace Go.Proofs.Ytgdcdkajicgliaa
open Go.RowKit
set_option linter.unusedVariables false
set_option maxRecDepth 100000

def rawV (n : Int) : Int := min (max n (-2147483648)) 2147483647
theorem rawV_in (n : Int) : IntKind.i32.wrap (rawV n) = rawV n := IntWalk.i32_in _ ⟨by unfold rawV; omega, by unfold rawV; omega⟩
def addV (x y : Int) : Int := rawV (wrap64 (wrap64 x + wrap64 y))
def subV (x y : Int) : Int := rawV (wrap64 (wrap64 x - wrap64 y))
def mulV (x y : Int) : Int := rawV (wrap64 (wrap64 (wrap64 x * wrap64 y) + 32768) / 65536)
def clV (x : Int) : Int := min (max x 0) 65536
theorem wrap64_lo (x : Int) : -9223372036854775808 ≤ wrap64 x := by unfold wrap64; omega
theorem wrap64_hi (x : Int) : wrap64 x ≤ 9223372036854775807 := by unfold wrap64; omega
theorem down_neg {x : Int} (h0 : -9223372036854775808 ≤ x) (h : x.tmod 65536 < 0) : wrap64 (x.tdiv 65536 - 1) = x / 65536 := by
  have hx : x < 0 := by
    rcases Int.lt_or_le x 0 with h1 | h1
    · exact h1
    · have := Int.tmod_nonneg (a := x) 65536 h1
      omega
  obtain ⟨y, rfl⟩ : ∃ y, x = -y := ⟨-x, by omega⟩
  rw [Int.neg_tmod, Int.tmod_eq_emod_of_nonneg (by omega)] at h
  rw [Int.neg_tdiv, Int.tdiv_eq_ediv_of_nonneg (by omega)]
  unfold wrap64
  omega
theorem down_pos {x : Int} (h : 0 ≤ x.tmod 65536) : x.tdiv 65536 = x / 65536 := by
  rcases Int.lt_or_le x 0 with h1 | h1
  · obtain ⟨y, rfl⟩ : ∃ y, x = -y := ⟨-x, by omega⟩
    rw [Int.neg_tmod, Int.tmod_eq_emod_of_nonneg (by omega)] at h
    rw [Int.neg_tdiv, Int.tdiv_eq_ediv_of_nonneg (by omega)]
    omega
  · exact Int.tdiv_eq_ediv_of_nonneg h1

theorem cut_any (n l h : Int) (w : World) : Calls Try.prog 137 #[.int .i64 n, .int .i64 l, .int .i64 h] w fun e w' => e = .returned (.int .i64 (min (max n l) h)) ∧ w = w' := by
  go_enter Try.func137, Try.ntmps137
  go_wp2
  all_goals go_ret
  all_goals refine ⟨ret_int ?_, rfl⟩
  all_goals first | omega | (split at * <;> omega) | (unfold rawV; omega)

theorem raw_any (n : Int) (w : World) : Calls Try.prog 134 #[.int .i64 n] w fun e w' => e = .returned (.int .i32 (rawV n)) ∧ w = w' := by
  go_enter Try.func134, Try.ntmps134
  go_wp2_with fail
  refine (cut_any _ _ _ _).mono ?_
  rintro _ _ ⟨rfl, rfl⟩
  go_wp2
  all_goals go_ret
  all_goals exact ⟨rfl, rfl⟩

theorem clampfix_any (n l h : Int) (w : World) : Calls Try.prog 100 #[.int .i32 n, .int .i32 l, .int .i32 h] w fun e w' => e = .returned (.int .i32 (min (max n l) h)) ∧ w = w' := by
  go_enter Try.func100, Try.ntmps100
  go_wp2
  all_goals go_ret
  all_goals refine ⟨ret_int ?_, rfl⟩
  all_goals first | omega | (split at * <;> omega) | (unfold rawV; omega)

theorem minfix_any (n l : Int) (w : World) : Calls Try.prog 133 #[.int .i32 n, .int .i32 l] w fun e w' => e = .returned (.int .i32 (min n l)) ∧ w = w' := by
  go_enter Try.func133, Try.ntmps133
  go_wp2
  all_goals go_ret
  all_goals refine ⟨ret_int ?_, rfl⟩
  all_goals first | omega | (split at * <;> omega) | (unfold rawV; omega)

theorem addfix_any (x y : Int) (w : World) : Calls Try.prog 122 #[.int .i32 x, .int .i32 y] w fun e w' => e = .returned (.int .i32 (addV x y)) ∧ w = w' := by
  go_enter Try.func122, Try.ntmps122
  go_wp2_with fail
  refine (raw_any _ _).mono ?_
  rintro _ _ ⟨rfl, rfl⟩
  go_wp2
  all_goals go_ret
  all_goals exact ⟨rfl, rfl⟩

theorem subfix_any (x y : Int) (w : World) : Calls Try.prog 123 #[.int .i32 x, .int .i32 y] w fun e w' => e = .returned (.int .i32 (subV x y)) ∧ w = w' := by
  go_enter Try.func123, Try.ntmps123
  go_wp2_with fail
  refine (raw_any _ _).mono ?_
  rintro _ _ ⟨rfl, rfl⟩
  go_wp2
  all_goals go_ret
  all_goals exact ⟨rfl, rfl⟩

theorem mulfix_any (x y : Int) (w : World) : Calls Try.prog 121 #[.int .i32 x, .int .i32 y] w fun e w' => e = .returned (.int .i32 (mulV x y)) ∧ w = w' := by
  go_enter Try.func121, Try.ntmps121
  go_wp2_with fail
  refine (raw_any _ _).mono ?_
  rintro _ _ ⟨rfl, rfl⟩
  go_wp2
  all_goals go_ret
  all_goals exact ⟨rfl, rfl⟩

theorem rmin_any (n l : Int) (w : World) : Calls Try.prog 124 #[.int .i32 n, .int .i32 l] w fun e w' => e = .returned (.int .i32 (min n l)) ∧ w = w' := by
  go_enter Try.func124, Try.ntmps124
  go_wp2
  all_goals go_ret
  all_goals refine ⟨ret_int ?_, rfl⟩
  all_goals first | omega | (split at * <;> omega) | (unfold rawV; omega)

theorem rmax_any (n l : Int) (w : World) : Calls Try.prog 125 #[.int .i32 n, .int .i32 l] w fun e w' => e = .returned (.int .i32 (max n l)) ∧ w = w' := by
  go_enter Try.func125, Try.ntmps125
  go_wp2
  all_goals go_ret
  all_goals refine ⟨ret_int ?_, rfl⟩
  all_goals first | omega | (split at * <;> omega) | (unfold rawV; omega)

theorem rclamp_any (n l h : Int) (w : World) : Calls Try.prog 109 #[.int .i32 n, .int .i32 l, .int .i32 h] w fun e w' => e = .returned (.int .i32 (min (max n l) h)) ∧ w = w' := by
  go_enter Try.func109, Try.ntmps109
  go_wp2_with fail
  refine (rmax_any _ _ _).mono ?_
  rintro _ _ ⟨rfl, rfl⟩
  go_wp2_with fail
  refine (rmin_any _ _ _).mono ?_
  rintro _ _ ⟨rfl, rfl⟩
  go_wp2
  all_goals go_ret
  all_goals exact ⟨rfl, rfl⟩

theorem rdown_any (x : Int) (w : World) (h0 : -9223372036854775808 ≤ x) (h1 : x ≤ 9223372036854775807) : Calls Try.prog 136 #[.int .i64 x, .int .i64 65536] w fun e w' => e = .returned (.int .i64 (x / 65536)) ∧ w = w' := by
  go_enter Try.func136, Try.ntmps136
  go_wp2
  all_goals go_ret
  · exact ⟨ret_int (down_neg h0 ‹_›), rfl⟩
  · exact ⟨ret_int (down_pos ‹_›), rfl⟩

theorem rraw_any (n : Int) (w : World) : Calls Try.prog 135 #[.int .i64 n] w fun e w' => e = .returned (.int .i32 (rawV n)) ∧ w = w' := by
  go_enter Try.func135, Try.ntmps135
  have h1 : rawV n = if 2147483647 < n then 2147483647 else if n < -2147483648 then -2147483648 else n := by unfold rawV; split <;> (try split) <;> omega
  have hv := Lib.hid h1
  clear h1
  go_wp2
  all_goals go_ret
  all_goals refine ⟨ret_int ?_, rfl⟩
  all_goals rw [hv.out]
  all_goals first | (rw [if_pos ‹_›]) | (rw [if_neg (by omega), if_pos ‹_›]) | (rw [if_neg (by omega), if_neg (by omega)])

theorem radd_any (x y : Int) (w : World) : Calls Try.prog 128 #[.int .i32 x, .int .i32 y] w fun e w' => e = .returned (.int .i32 (addV x y)) ∧ w = w' := by
  go_enter Try.func128, Try.ntmps128
  go_wp2_with fail
  refine (rraw_any _ _).mono ?_
  rintro _ _ ⟨rfl, rfl⟩
  go_wp2
  all_goals go_ret
  all_goals exact ⟨rfl, rfl⟩

theorem rsub_any (x y : Int) (w : World) : Calls Try.prog 129 #[.int .i32 x, .int .i32 y] w fun e w' => e = .returned (.int .i32 (subV x y)) ∧ w = w' := by
  go_enter Try.func129, Try.ntmps129
  go_wp2_with fail
  refine (rraw_any _ _).mono ?_
  rintro _ _ ⟨rfl, rfl⟩
  go_wp2
  all_goals go_ret
  all_goals exact ⟨rfl, rfl⟩

theorem rmul_any (x y : Int) (w : World) : Calls Try.prog 126 #[.int .i32 x, .int .i32 y] w fun e w' => e = .returned (.int .i32 (mulV x y)) ∧ w = w' := by
  go_enter Try.func126, Try.ntmps126
  go_wp2_with fail
  refine (rdown_any _ _ (wrap64_lo _) (wrap64_hi _)).mono ?_
  rintro _ _ ⟨rfl, rfl⟩
  go_wp2_with fail
  refine (rraw_any _ _).mono ?_
  rintro _ _ ⟨rfl, rfl⟩
  go_wp2
  all_goals go_ret
  all_goals exact ⟨rfl, rfl⟩

end Go.Proofs.Ytgdcdkajicgliaa
namespace Go.Proofs.Ytgdcdkajicgliaa
open Go.RowKit
set_option linter.unusedVariables false
set_option maxRecDepth 100000

def byteN (x : Int) : Nat := (x % 256).toNat
theorem byteN_lt (x : Int) : byteN x < 256 := by unfold byteN; omega
theorem byteN_nat (b : Nat) (h : b < 256) : byteN (b : Int) = b := by unfold byteN; omega
theorem and8 (x : Int) (m : Nat) (hm : m < 256) : bits .and .i64 x (m : Int) = ((byteN x &&& m : Nat) : Int) := by
  have h1 : ((x % ((2 ^ 64 : Nat) : Int)).toNat &&& m) < 2 ^ 8 := Nat.and_lt_two_pow _ (by omega)
  have key : (BitVec.ofInt 64 x &&& BitVec.ofInt 64 (m : Int)).toNat = byteN x &&& m := by
    rw [BitVec.toNat_and, BitVec.toNat_ofInt, BitVec.ofInt_natCast, BitVec.toNat_ofNat, Nat.mod_eq_of_lt (by omega)]
    rw [← Nat.mod_eq_of_lt h1, Nat.and_mod_two_pow]
    have e1 : (x % ((2 ^ 64 : Nat) : Int)).toNat % 2 ^ 8 = byteN x := by unfold byteN; omega
    have e2 : m % 2 ^ 8 = m := Nat.mod_eq_of_lt (by omega)
    rw [e1, e2]
  have h2 : (byteN x &&& m) < 2 ^ 8 := Nat.and_lt_two_pow _ (by omega)
  show IntKind.i64.wrap ((BitVec.ofInt 64 x &&& BitVec.ofInt 64 (m : Int)).toNat : Int) = _
  rw [key, IntKind.wrap_i64]
  omega
theorem and255 (x : Int) : bits .and .i64 x 255 = (byteN x : Int) := by
  have h := and8 x 255 (by decide)
  have e : byteN x &&& 255 = byteN x := by
    rw [show 255 = 2 ^ 8 - 1 from rfl, Nat.and_two_pow_sub_one_eq_mod]
    exact Nat.mod_eq_of_lt (byteN_lt x)
  rw [e] at h
  exact h
theorem or8 (a b : Nat) (ha : a < 256) (hb : b < 256) : bits .or .i64 (a : Int) (b : Int) = ((a ||| b : Nat) : Int) :=
  (bits_nat .i64 8 (by decide) (fun n h0 h1 => by rw [IntKind.wrap_i64]; omega) a b ha hb).2
theorem andNot8 (s w : Nat) (hs : s < 256) (hw : w < 256) : bits .andNot .i64 (s : Int) (w : Int) = ((s &&& (255 - w) : Nat) : Int) := by
  have h1 : (s &&& (2 ^ 64 - 1 - w)) < 2 ^ 8 := Nat.lt_of_le_of_lt Nat.and_le_left (by omega)
  have key : (BitVec.ofInt 64 (s : Int) &&& ~~~BitVec.ofInt 64 (w : Int)).toNat = s &&& (255 - w) := by
    rw [BitVec.toNat_and, BitVec.toNat_not, BitVec.ofInt_natCast, BitVec.ofInt_natCast, BitVec.toNat_ofNat, BitVec.toNat_ofNat, Nat.mod_eq_of_lt (by omega), Nat.mod_eq_of_lt (by omega)]
    rw [← Nat.mod_eq_of_lt h1, Nat.and_mod_two_pow]
    have e1 : s % 2 ^ 8 = s := Nat.mod_eq_of_lt (by omega)
    have e2 : (2 ^ 64 - 1 - w) % 2 ^ 8 = 255 - w := by omega
    rw [e1, e2]
  have h2 : (s &&& (255 - w)) < 2 ^ 8 := Nat.and_lt_two_pow _ (by omega)
  show IntKind.i64.wrap ((BitVec.ofInt 64 (s : Int) &&& ~~~BitVec.ofInt 64 (w : Int)).toNat : Int) = _
  rw [key, IntKind.wrap_i64]
  omega
theorem inv8 (b : Nat) (h : b < 256) : bits .and .i64 (bits .xor .i64 (-1) (b : Int)) 255 = ((255 - b : Nat) : Int) := by
  have h1 : ∀ b : Fin 256, bits .and .i64 (bits .xor .i64 (-1) (b.val : Int)) 255 = ((255 - b.val : Nat) : Int) := by decide +kernel
  exact h1 ⟨b, h⟩

def mixB (n s w : Nat) : Nat := (n &&& w) ||| (s &&& (255 - w))
theorem mixB_lt (n s w : Nat) (hn : n < 256) (hs : s < 256) (hw : w < 256) : mixB n s w < 256 :=
  Nat.or_lt_two_pow (n := 8) (Nat.lt_of_le_of_lt Nat.and_le_left hn) (Nat.lt_of_le_of_lt Nat.and_le_left hs)
theorem mix8 (n s w : Nat) (hn : n < 256) (hs : s < 256) (hw : w < 256) : bits .or .i64 (bits .and .i64 (n : Int) (w : Int)) (bits .andNot .i64 (s : Int) (w : Int)) = (mixB n s w : Int) := by
  rw [and8 _ _ hw, byteN_nat n hn, andNot8 s w hs hw, or8 _ _ (Nat.lt_of_le_of_lt Nat.and_le_left hn) (Nat.lt_of_le_of_lt Nat.and_le_left hs)]
  rfl
theorem and2p (x i : Nat) : x &&& 2 ^ i = if x.testBit i then 2 ^ i else 0 := by
  rw [nat_bit, Nat.testBit_eq_decide_div_mod_eq]
  have h : x / 2 ^ i % 2 = 0 ∨ x / 2 ^ i % 2 = 1 := by omega
  rcases h with h | h <;> simp [h]
theorem mixB_bit (n s w i : Nat) (hi : i < 8) (hw : w < 256) : mixB n s w &&& 2 ^ i = if w &&& 2 ^ i = 0 then s &&& 2 ^ i else n &&& 2 ^ i := by
  have h : (mixB n s w).testBit i = ((n.testBit i && w.testBit i) || (s.testBit i && !w.testBit i)) := by
    have e : 255 - w = 2 ^ 8 - (w + 1) := by omega
    unfold mixB
    rw [Nat.testBit_or, Nat.testBit_and, Nat.testBit_and, e, Nat.testBit_two_pow_sub_succ (by omega)]
    simp [hi]
  have hp : 0 < 2 ^ i := Nat.two_pow_pos i
  rw [and2p, and2p, and2p, and2p, h]
  cases w.testBit i <;> cases n.testBit i <;> cases s.testBit i <;> simp <;> omega
def rs (n s w : Nat) : Nat → Nat
  | 0 => 0
  | i + 1 => rs n s w i + (if w &&& 2 ^ i = 0 then s &&& 2 ^ i else n &&& 2 ^ i)
def bsum (x : Nat) : Nat → Nat
  | 0 => 0
  | i + 1 => bsum x i + (x &&& 2 ^ i)
theorem rs_bsum (n s w : Nat) (hw : w < 256) : ∀ i, i ≤ 8 → rs n s w i = bsum (mixB n s w) i
  | 0, _ => rfl
  | i + 1, h => by
      show rs n s w i + _ = bsum _ i + _
      rw [rs_bsum n s w hw i (by omega), mixB_bit n s w i (by omega) hw]
theorem bsum_all : ∀ x : Fin 256, bsum x.val 8 = x.val ∧ ∀ i : Fin 9, bsum x.val i.val < 256 := by decide +kernel
theorem rs_lt (n s w : Nat) (hn : n < 256) (hs : s < 256) (hw : w < 256) (i : Nat) (hi : i ≤ 8) : rs n s w i < 256 := by
  rw [rs_bsum n s w hw i hi]
  exact (bsum_all ⟨_, mixB_lt n s w hn hs hw⟩).2 ⟨i, by omega⟩
theorem rs_all (n s w : Nat) (hn : n < 256) (hs : s < 256) (hw : w < 256) : rs n s w 8 = mixB n s w := by
  rw [rs_bsum n s w hw 8 (Nat.le_refl _)]
  exact (bsum_all ⟨_, mixB_lt n s w hn hs hw⟩).1

def nD (how : Int) (b r : Nat) : Nat :=
  if how = 2 then 0 else if how = 3 then r else if how = 4 then (if b < 255 then b + 1 else 255) else if how = 5 then (b + 1) % 256 else if how = 6 then b - 1 else if how = 7 then (b + 255) % 256 else if how = 8 then 255 - b else b
theorem nD_lt (how : Int) (b r : Nat) (hb : b < 256) (hr : r < 256) : nD how b r < 256 := by
  unfold nD
  repeat' split
  all_goals omega
theorem nD_other (how : Int) (b r : Nat) (h : (how == 2) = false ∧ (how == 3) = false ∧ (how == 4) = false ∧ (how == 5) = false ∧ (how == 6) = false ∧ (how == 7) = false ∧ (how == 8) = false) : nD how b r = b := by
  obtain ⟨h2, h3, h4, h5, h6, h7, h8⟩ := h
  simp only [beq_eq_false_iff_ne] at h2 h3 h4 h5 h6 h7 h8
  unfold nD
  rw [if_neg h2, if_neg h3, if_neg h4, if_neg h5, if_neg h6, if_neg h7, if_neg h8]
/-- A stencil, turned. -/
def turnV (how s r w : Int) : Nat := mixB (nD how (byteN s) (byteN r)) (byteN s) (byteN w)
theorem turnV_lt (how s r w : Int) : turnV how s r w < 256 := mixB_lt _ _ _ (nD_lt _ _ _ (byteN_lt _) (byteN_lt _)) (byteN_lt _) (byteN_lt _)
end Go.Proofs.Ytgdcdkajicgliaa
namespace Go.Proofs.Ytgdcdkajicgliaa
open Go.RowKit
set_option linter.unusedVariables false
set_option maxRecDepth 100000

set_option maxHeartbeats 2000000 in
theorem turn_any (how s r wr : Int) (w : World) : Calls Try.prog 98 #[.int .i64 how, .int .i64 s, .int .i64 r, .int .i64 wr] w fun e w' => e = .returned (.int .i64 (turnV how s r wr)) ∧ w = w' := by
  have HS := Lib.hid (byteN_lt s)
  have HR := Lib.hid (byteN_lt r)
  have HW := Lib.hid (byteN_lt wr)
  have HT := Lib.hid (show turnV how s r wr = mixB (nD how (byteN s) (byteN r)) (byteN s) (byteN wr) from rfl)
  have es := and255 s
  have er := and255 r
  have ew := and255 wr
  generalize hb : byteN s = b at *
  generalize hrr : byteN r = rr at *
  generalize hww : byteN wr = ww at *
  generalize turnV how s r wr = TV at *
  clear hb hrr hww
  have hfin : ∀ z : Int, z = ((nD how b rr : Nat) : Int) → bits .or .i64 (bits .and .i64 z (ww : Int)) (bits .andNot .i64 (b : Int) (ww : Int)) = (TV : Int) := fun z he => by
    rw [he, mix8 _ b ww (nD_lt _ _ _ HS.out HR.out) HS.out HW.out, HT.out]
  have HF := Lib.hid hfin
  clear hfin
  rcases how_cases how with rfl | rfl | rfl | rfl | rfl | rfl | rfl | h
  · go_enter Try.func98, Try.ntmps98
    go_wp2
    all_goals go_ret
    all_goals exact ⟨ret_int (HF.out 0 rfl), rfl⟩
  · go_enter Try.func98, Try.ntmps98
    go_wp2
    all_goals go_ret
    all_goals exact ⟨ret_int (HF.out _ rfl), rfl⟩
  · go_enter Try.func98, Try.ntmps98
    go_wp2
    all_goals go_ret
    all_goals refine ⟨ret_int (HF.out _ ?_), rfl⟩
    all_goals rw [show nD 4 b rr = if b < 255 then b + 1 else 255 from rfl]
    all_goals have := HS.out
    all_goals unfold wrap64 at *
    all_goals split <;> omega
  · have e1 : bits .and .i64 (wrap64 ((b : Int) + 1)) 255 = ((((b + 1) % 256 : Nat)) : Int) := by rw [and255]; have := HS.out; unfold byteN wrap64; omega
    go_enter Try.func98, Try.ntmps98
    go_wp2
    all_goals go_ret
    all_goals exact ⟨ret_int (HF.out _ rfl), rfl⟩
  · go_enter Try.func98, Try.ntmps98
    go_wp2
    all_goals go_ret
    all_goals refine ⟨ret_int (HF.out _ ?_), rfl⟩
    all_goals rw [show nD 6 b rr = b - 1 from rfl]
    all_goals have := HS.out
    all_goals unfold wrap64 at *
    all_goals omega
  · have e1 : bits .and .i64 (wrap64 ((b : Int) - 1)) 255 = ((((b + 255) % 256 : Nat)) : Int) := by rw [and255]; have := HS.out; unfold byteN wrap64; omega
    go_enter Try.func98, Try.ntmps98
    go_wp2
    all_goals go_ret
    all_goals exact ⟨ret_int (HF.out _ rfl), rfl⟩
  · have e1 := inv8 b HS.out
    go_enter Try.func98, Try.ntmps98
    go_wp2
    all_goals go_ret
    all_goals exact ⟨ret_int (HF.out _ rfl), rfl⟩
  · have hv := Lib.hid (nD_other how b rr h)
    obtain ⟨h2, h3, h4, h5, h6, h7, h8⟩ := h
    go_enter Try.func98, Try.ntmps98
    go_wp2
    all_goals go_ret
    all_goals exact ⟨ret_int (HF.out _ (by rw [hv.out])), rfl⟩
end Go.Proofs.Ytgdcdkajicgliaa
namespace Go.Proofs.Ytgdcdkajicgliaa
open Go.RowKit
set_option linter.unusedVariables false
set_option maxRecDepth 100000

theorem pow8_cases (i : Nat) (h : i < 8) : 2 ^ i < 256 ∧ 2 ^ i * 2 = 2 ^ (i + 1) := by
  have h1 := Nat.pow_lt_pow_right (a := 2) (by decide) h
  exact ⟨h1, by rw [Nat.pow_succ]⟩
theorem pow8_not (i : Nat) (h : i ≤ 8) (h2 : ¬ i < 8) : i = 8 := by omega
set_option maxHeartbeats 4000000 in
set_option maxRecDepth 30000 in
theorem rturn_any (how s r wr : Int) (w : World) : Calls Try.prog 108 #[.int .i64 how, .int .i64 s, .int .i64 r, .int .i64 wr] w fun e w' => e = .returned (.int .i64 (turnV how s r wr)) ∧ w = w' := by
  have HS := Lib.hid (byteN_lt s)
  have HR := Lib.hid (byteN_lt r)
  have HW := Lib.hid (byteN_lt wr)
  have hwb : ∀ K : Nat, K < 256 → bits .and .i64 wr (K : Int) = ((byteN wr &&& K : Nat) : Int) := fun K hK => and8 wr K hK
  have HWB := Lib.hid hwb
  clear hwb
  have HT := Lib.hid (show turnV how s r wr = mixB (nD how (byteN s) (byteN r)) (byteN s) (byteN wr) from rfl)
  have es := and255 s
  have er := and255 r
  generalize hb : byteN s = b at *
  generalize hrr : byteN r = rr at *
  generalize hww : byteN wr = ww at *
  generalize hTV : turnV how s r wr = TV at *
  clear hb hrr hww hTV
  have hb256 := HS.out
  rcases how_cases how with rfl | rfl | rfl | rfl | rfl | rfl | rfl | h
  · skip
    have HNE := Lib.hid (show nD 2 b rr = 0 from by rfl)
    have HN := Lib.hid (show 0 < 256 by have := HS.out; have := HR.out; omega)
    go_enter Try.func108, Try.ntmps108
    go_wp2_with fail
    go_loopw [11, 12] (fun o i wq => ∃ m : Nat, m ≤ 8 ∧ i = .int .i64 ((2 ^ m : Nat) : Int) ∧ o = .int .i64 ((rs (0) b ww m : Nat) : Int) ∧ wq = w) (fun _ i _ => (256 - intOf i).toNat)
    case atStart => exact ⟨0, Nat.zero_le _, rfl, rfl, rfl⟩
    case round =>
      obtain ⟨m, hm, rfl, rfl, rfl⟩ := hrel
      by_cases hlt : m < 8
      · have hp := pow8_cases m hlt
        have hs1 : rs (0) b ww (m + 1) = rs (0) b ww m + (if ww &&& 2 ^ m = 0 then b &&& 2 ^ m else (0) &&& 2 ^ m) := rfl
        have hl0 := rs_lt (0) b ww HN.out HS.out HW.out m hm
        have hl1 := rs_lt (0) b ww HN.out HS.out HW.out (m + 1) (by omega)
        have e1 := HWB.out _ hp.1
        have e2 := and8 (((0 : Nat)) : Int) _ hp.1
        have e3 := and8 (b : Int) _ hp.1
        rw [byteN_nat (0) HN.out] at e2
        rw [byteN_nat b HS.out] at e3
        rw [show (((0 : Nat)) : Int) = 0 by omega] at e2
        have hK0 : 0 < 2 ^ m := Nat.two_pow_pos m
        have hp2 := Lib.hid hp.2
        have hp1 := hp.1
        clear hp
        generalize hG1 : rs (0) b ww (m + 1) = G1 at *
        generalize hG0 : rs (0) b ww m = G0 at *
        have HG1 := Lib.hid hG1
        clear hG1 hG0
        generalize hK : 2 ^ m = K at *
        have HK := Lib.hid hK
        clear hK
        have hlt256 : (K : Int) < 256 := by omega
        by_cases hz : ww &&& K = 0
        · rw [if_pos hz] at hs1
          rw [hz] at e1
          generalize b &&& K = BK at *
          generalize (0) &&& K = NK at *
          go_wp2
          refine ⟨⟨m + 1, by omega, ?_, ?_, by first | rfl | trivial⟩, ?_⟩
          · rw [← hp2.out]; simp
          · rw [HG1.out, hs1]; simp
          · simp only [intOf]; omega
        · rw [if_neg hz] at hs1
          have hz2 : (0 : Int) < ((ww &&& K : Nat) : Int) := by omega
          generalize ww &&& K = WK at *
          generalize b &&& K = BK at *
          generalize (0) &&& K = NK at *
          go_wp2
          refine ⟨⟨m + 1, by omega, ?_, ?_, by first | rfl | trivial⟩, ?_⟩
          · rw [← hp2.out]; simp
          · rw [HG1.out, hs1]; simp
          · simp only [intOf]; omega
      · obtain rfl := pow8_not m hm hlt
        have hfin := Lib.hid ((rs_all (0) b ww HN.out HS.out HW.out).trans ((congrArg (fun x => mixB x b ww) HNE.out.symm).trans HT.out.symm))
        generalize rs (0) b ww 8 = G0 at *
        go_wp2
        go_ret
        first | rfl | exact ⟨rfl, rfl⟩ | exact ⟨by rw [hfin.out]; rfl, rfl⟩
  · skip
    have HNE := Lib.hid (show nD 3 b rr = rr from by rfl)
    have HN := Lib.hid (show rr < 256 by have := HS.out; have := HR.out; omega)
    go_enter Try.func108, Try.ntmps108
    go_wp2_with fail
    go_loopw [11, 12] (fun o i wq => ∃ m : Nat, m ≤ 8 ∧ i = .int .i64 ((2 ^ m : Nat) : Int) ∧ o = .int .i64 ((rs (rr) b ww m : Nat) : Int) ∧ wq = w) (fun _ i _ => (256 - intOf i).toNat)
    case atStart => exact ⟨0, Nat.zero_le _, rfl, rfl, rfl⟩
    case round =>
      obtain ⟨m, hm, rfl, rfl, rfl⟩ := hrel
      by_cases hlt : m < 8
      · have hp := pow8_cases m hlt
        have hs1 : rs (rr) b ww (m + 1) = rs (rr) b ww m + (if ww &&& 2 ^ m = 0 then b &&& 2 ^ m else (rr) &&& 2 ^ m) := rfl
        have hl0 := rs_lt (rr) b ww HN.out HS.out HW.out m hm
        have hl1 := rs_lt (rr) b ww HN.out HS.out HW.out (m + 1) (by omega)
        have e1 := HWB.out _ hp.1
        have e2 := and8 (((rr : Nat)) : Int) _ hp.1
        have e3 := and8 (b : Int) _ hp.1
        rw [byteN_nat (rr) HN.out] at e2
        rw [byteN_nat b HS.out] at e3
        rw [show (((rr : Nat)) : Int) = (rr : Int) by omega] at e2
        have hK0 : 0 < 2 ^ m := Nat.two_pow_pos m
        have hp2 := Lib.hid hp.2
        have hp1 := hp.1
        clear hp
        generalize hG1 : rs (rr) b ww (m + 1) = G1 at *
        generalize hG0 : rs (rr) b ww m = G0 at *
        have HG1 := Lib.hid hG1
        clear hG1 hG0
        generalize hK : 2 ^ m = K at *
        have HK := Lib.hid hK
        clear hK
        have hlt256 : (K : Int) < 256 := by omega
        by_cases hz : ww &&& K = 0
        · rw [if_pos hz] at hs1
          rw [hz] at e1
          generalize b &&& K = BK at *
          generalize (rr) &&& K = NK at *
          go_wp2
          refine ⟨⟨m + 1, by omega, ?_, ?_, by first | rfl | trivial⟩, ?_⟩
          · rw [← hp2.out]; simp
          · rw [HG1.out, hs1]; simp
          · simp only [intOf]; omega
        · rw [if_neg hz] at hs1
          have hz2 : (0 : Int) < ((ww &&& K : Nat) : Int) := by omega
          generalize ww &&& K = WK at *
          generalize b &&& K = BK at *
          generalize (rr) &&& K = NK at *
          go_wp2
          refine ⟨⟨m + 1, by omega, ?_, ?_, by first | rfl | trivial⟩, ?_⟩
          · rw [← hp2.out]; simp
          · rw [HG1.out, hs1]; simp
          · simp only [intOf]; omega
      · obtain rfl := pow8_not m hm hlt
        have hfin := Lib.hid ((rs_all (rr) b ww HN.out HS.out HW.out).trans ((congrArg (fun x => mixB x b ww) HNE.out.symm).trans HT.out.symm))
        generalize rs (rr) b ww 8 = G0 at *
        go_wp2
        go_ret
        first | rfl | exact ⟨rfl, rfl⟩ | exact ⟨by rw [hfin.out]; rfl, rfl⟩
  · by_cases hb5 : b < 255
    · skip
      have HNE := Lib.hid (show nD 4 b rr = b + 1 from by have := HS.out; rw [show nD 4 b rr = if b < 255 then b + 1 else 255 from rfl]; split <;> omega)
      have HN := Lib.hid (show b + 1 < 256 by have := HS.out; have := HR.out; omega)
      go_enter Try.func108, Try.ntmps108
      go_wp2_with fail
      go_loopw [11, 12] (fun o i wq => ∃ m : Nat, m ≤ 8 ∧ i = .int .i64 ((2 ^ m : Nat) : Int) ∧ o = .int .i64 ((rs (b + 1) b ww m : Nat) : Int) ∧ wq = w) (fun _ i _ => (256 - intOf i).toNat)
      case atStart => exact ⟨0, Nat.zero_le _, rfl, rfl, rfl⟩
      case round =>
        obtain ⟨m, hm, rfl, rfl, rfl⟩ := hrel
        by_cases hlt : m < 8
        · have hp := pow8_cases m hlt
          have hs1 : rs (b + 1) b ww (m + 1) = rs (b + 1) b ww m + (if ww &&& 2 ^ m = 0 then b &&& 2 ^ m else (b + 1) &&& 2 ^ m) := rfl
          have hl0 := rs_lt (b + 1) b ww HN.out HS.out HW.out m hm
          have hl1 := rs_lt (b + 1) b ww HN.out HS.out HW.out (m + 1) (by omega)
          have e1 := HWB.out _ hp.1
          have e2 := and8 (((b + 1 : Nat)) : Int) _ hp.1
          have e3 := and8 (b : Int) _ hp.1
          rw [byteN_nat (b + 1) HN.out] at e2
          rw [byteN_nat b HS.out] at e3
          rw [show (((b + 1 : Nat)) : Int) = ((b : Int) + 1) by omega] at e2
          have hK0 : 0 < 2 ^ m := Nat.two_pow_pos m
          have hp2 := Lib.hid hp.2
          have hp1 := hp.1
          clear hp
          generalize hG1 : rs (b + 1) b ww (m + 1) = G1 at *
          generalize hG0 : rs (b + 1) b ww m = G0 at *
          have HG1 := Lib.hid hG1
          clear hG1 hG0
          generalize hK : 2 ^ m = K at *
          have HK := Lib.hid hK
          clear hK
          have hlt256 : (K : Int) < 256 := by omega
          by_cases hz : ww &&& K = 0
          · rw [if_pos hz] at hs1
            rw [hz] at e1
            generalize b &&& K = BK at *
            generalize (b + 1) &&& K = NK at *
            go_wp2
            refine ⟨⟨m + 1, by omega, ?_, ?_, by first | rfl | trivial⟩, ?_⟩
            · rw [← hp2.out]; simp
            · rw [HG1.out, hs1]; simp
            · simp only [intOf]; omega
          · rw [if_neg hz] at hs1
            have hz2 : (0 : Int) < ((ww &&& K : Nat) : Int) := by omega
            generalize ww &&& K = WK at *
            generalize b &&& K = BK at *
            generalize (b + 1) &&& K = NK at *
            go_wp2
            refine ⟨⟨m + 1, by omega, ?_, ?_, by first | rfl | trivial⟩, ?_⟩
            · rw [← hp2.out]; simp
            · rw [HG1.out, hs1]; simp
            · simp only [intOf]; omega
        · obtain rfl := pow8_not m hm hlt
          have hfin := Lib.hid ((rs_all (b + 1) b ww HN.out HS.out HW.out).trans ((congrArg (fun x => mixB x b ww) HNE.out.symm).trans HT.out.symm))
          generalize rs (b + 1) b ww 8 = G0 at *
          go_wp2
          go_ret
          first | rfl | exact ⟨rfl, rfl⟩ | exact ⟨by rw [hfin.out]; rfl, rfl⟩
    · skip
      have HNE := Lib.hid (show nD 4 b rr = b from by have := HS.out; rw [show nD 4 b rr = if b < 255 then b + 1 else 255 from rfl]; split <;> omega)
      have HN := Lib.hid (show b < 256 by have := HS.out; have := HR.out; omega)
      go_enter Try.func108, Try.ntmps108
      go_wp2_with fail
      go_loopw [11, 12] (fun o i wq => ∃ m : Nat, m ≤ 8 ∧ i = .int .i64 ((2 ^ m : Nat) : Int) ∧ o = .int .i64 ((rs (b) b ww m : Nat) : Int) ∧ wq = w) (fun _ i _ => (256 - intOf i).toNat)
      case atStart => exact ⟨0, Nat.zero_le _, rfl, rfl, rfl⟩
      case round =>
        obtain ⟨m, hm, rfl, rfl, rfl⟩ := hrel
        by_cases hlt : m < 8
        · have hp := pow8_cases m hlt
          have hs1 : rs (b) b ww (m + 1) = rs (b) b ww m + (if ww &&& 2 ^ m = 0 then b &&& 2 ^ m else (b) &&& 2 ^ m) := rfl
          have hl0 := rs_lt (b) b ww HN.out HS.out HW.out m hm
          have hl1 := rs_lt (b) b ww HN.out HS.out HW.out (m + 1) (by omega)
          have e1 := HWB.out _ hp.1
          have e2 := and8 (((b : Nat)) : Int) _ hp.1
          have e3 := and8 (b : Int) _ hp.1
          rw [byteN_nat (b) HN.out] at e2
          rw [byteN_nat b HS.out] at e3
          rw [show (((b : Nat)) : Int) = (b : Int) by omega] at e2
          have hK0 : 0 < 2 ^ m := Nat.two_pow_pos m
          have hp2 := Lib.hid hp.2
          have hp1 := hp.1
          clear hp
          generalize hG1 : rs (b) b ww (m + 1) = G1 at *
          generalize hG0 : rs (b) b ww m = G0 at *
          have HG1 := Lib.hid hG1
          clear hG1 hG0
          generalize hK : 2 ^ m = K at *
          have HK := Lib.hid hK
          clear hK
          have hlt256 : (K : Int) < 256 := by omega
          by_cases hz : ww &&& K = 0
          · rw [if_pos hz] at hs1
            rw [hz] at e1
            generalize b &&& K = BK at *
            generalize (b) &&& K = NK at *
            go_wp2
            refine ⟨⟨m + 1, by omega, ?_, ?_, by first | rfl | trivial⟩, ?_⟩
            · rw [← hp2.out]; simp
            · rw [HG1.out, hs1]; simp
            · simp only [intOf]; omega
          · rw [if_neg hz] at hs1
            have hz2 : (0 : Int) < ((ww &&& K : Nat) : Int) := by omega
            generalize ww &&& K = WK at *
            generalize b &&& K = BK at *
            generalize (b) &&& K = NK at *
            go_wp2
            refine ⟨⟨m + 1, by omega, ?_, ?_, by first | rfl | trivial⟩, ?_⟩
            · rw [← hp2.out]; simp
            · rw [HG1.out, hs1]; simp
            · simp only [intOf]; omega
        · obtain rfl := pow8_not m hm hlt
          have hfin := Lib.hid ((rs_all (b) b ww HN.out HS.out HW.out).trans ((congrArg (fun x => mixB x b ww) HNE.out.symm).trans HT.out.symm))
          generalize rs (b) b ww 8 = G0 at *
          go_wp2
          go_ret
          first | rfl | exact ⟨rfl, rfl⟩ | exact ⟨by rw [hfin.out]; rfl, rfl⟩
  · skip
    have HNE := Lib.hid (show nD 5 b rr = (b + 1) % 256 from by rfl)
    have HN := Lib.hid (show (b + 1) % 256 < 256 by have := HS.out; have := HR.out; omega)
    go_enter Try.func108, Try.ntmps108
    go_wp2_with fail
    go_loopw [11, 12] (fun o i wq => ∃ m : Nat, m ≤ 8 ∧ i = .int .i64 ((2 ^ m : Nat) : Int) ∧ o = .int .i64 ((rs ((b + 1) % 256) b ww m : Nat) : Int) ∧ wq = w) (fun _ i _ => (256 - intOf i).toNat)
    case atStart => exact ⟨0, Nat.zero_le _, rfl, rfl, rfl⟩
    case round =>
      obtain ⟨m, hm, rfl, rfl, rfl⟩ := hrel
      by_cases hlt : m < 8
      · have hp := pow8_cases m hlt
        have hs1 : rs ((b + 1) % 256) b ww (m + 1) = rs ((b + 1) % 256) b ww m + (if ww &&& 2 ^ m = 0 then b &&& 2 ^ m else ((b + 1) % 256) &&& 2 ^ m) := rfl
        have hl0 := rs_lt ((b + 1) % 256) b ww HN.out HS.out HW.out m hm
        have hl1 := rs_lt ((b + 1) % 256) b ww HN.out HS.out HW.out (m + 1) (by omega)
        have e1 := HWB.out _ hp.1
        have e2 := and8 ((((b + 1) % 256 : Nat)) : Int) _ hp.1
        have e3 := and8 (b : Int) _ hp.1
        rw [byteN_nat ((b + 1) % 256) HN.out] at e2
        rw [byteN_nat b HS.out] at e3
        rw [show ((((b + 1) % 256 : Nat)) : Int) = (((b : Int) + 1) % 256) by omega] at e2
        have hK0 : 0 < 2 ^ m := Nat.two_pow_pos m
        have hp2 := Lib.hid hp.2
        have hp1 := hp.1
        clear hp
        generalize hG1 : rs ((b + 1) % 256) b ww (m + 1) = G1 at *
        generalize hG0 : rs ((b + 1) % 256) b ww m = G0 at *
        have HG1 := Lib.hid hG1
        clear hG1 hG0
        generalize hK : 2 ^ m = K at *
        have HK := Lib.hid hK
        clear hK
        have hlt256 : (K : Int) < 256 := by omega
        by_cases hz : ww &&& K = 0
        · rw [if_pos hz] at hs1
          rw [hz] at e1
          generalize b &&& K = BK at *
          generalize ((b + 1) % 256) &&& K = NK at *
          go_wp2
          refine ⟨⟨m + 1, by omega, ?_, ?_, by first | rfl | trivial⟩, ?_⟩
          · rw [← hp2.out]; simp
          · rw [HG1.out, hs1]; simp
          · simp only [intOf]; omega
        · rw [if_neg hz] at hs1
          have hz2 : (0 : Int) < ((ww &&& K : Nat) : Int) := by omega
          generalize ww &&& K = WK at *
          generalize b &&& K = BK at *
          generalize ((b + 1) % 256) &&& K = NK at *
          go_wp2
          refine ⟨⟨m + 1, by omega, ?_, ?_, by first | rfl | trivial⟩, ?_⟩
          · rw [← hp2.out]; simp
          · rw [HG1.out, hs1]; simp
          · simp only [intOf]; omega
      · obtain rfl := pow8_not m hm hlt
        have hfin := Lib.hid ((rs_all ((b + 1) % 256) b ww HN.out HS.out HW.out).trans ((congrArg (fun x => mixB x b ww) HNE.out.symm).trans HT.out.symm))
        generalize rs ((b + 1) % 256) b ww 8 = G0 at *
        go_wp2
        go_ret
        first | rfl | exact ⟨rfl, rfl⟩ | exact ⟨by rw [hfin.out]; rfl, rfl⟩
  · by_cases hb5 : 0 < b
    · skip
      have HNE := Lib.hid (show nD 6 b rr = b - 1 from by have := HS.out; show b - 1 = _; omega)
      have HN := Lib.hid (show b - 1 < 256 by have := HS.out; have := HR.out; omega)
      go_enter Try.func108, Try.ntmps108
      go_wp2_with fail
      go_loopw [11, 12] (fun o i wq => ∃ m : Nat, m ≤ 8 ∧ i = .int .i64 ((2 ^ m : Nat) : Int) ∧ o = .int .i64 ((rs (b - 1) b ww m : Nat) : Int) ∧ wq = w) (fun _ i _ => (256 - intOf i).toNat)
      case atStart => exact ⟨0, Nat.zero_le _, rfl, rfl, rfl⟩
      case round =>
        obtain ⟨m, hm, rfl, rfl, rfl⟩ := hrel
        by_cases hlt : m < 8
        · have hp := pow8_cases m hlt
          have hs1 : rs (b - 1) b ww (m + 1) = rs (b - 1) b ww m + (if ww &&& 2 ^ m = 0 then b &&& 2 ^ m else (b - 1) &&& 2 ^ m) := rfl
          have hl0 := rs_lt (b - 1) b ww HN.out HS.out HW.out m hm
          have hl1 := rs_lt (b - 1) b ww HN.out HS.out HW.out (m + 1) (by omega)
          have e1 := HWB.out _ hp.1
          have e2 := and8 (((b - 1 : Nat)) : Int) _ hp.1
          have e3 := and8 (b : Int) _ hp.1
          rw [byteN_nat (b - 1) HN.out] at e2
          rw [byteN_nat b HS.out] at e3
          rw [show (((b - 1 : Nat)) : Int) = ((b : Int) - 1) by omega] at e2
          have hK0 : 0 < 2 ^ m := Nat.two_pow_pos m
          have hp2 := Lib.hid hp.2
          have hp1 := hp.1
          clear hp
          generalize hG1 : rs (b - 1) b ww (m + 1) = G1 at *
          generalize hG0 : rs (b - 1) b ww m = G0 at *
          have HG1 := Lib.hid hG1
          clear hG1 hG0
          generalize hK : 2 ^ m = K at *
          have HK := Lib.hid hK
          clear hK
          have hlt256 : (K : Int) < 256 := by omega
          by_cases hz : ww &&& K = 0
          · rw [if_pos hz] at hs1
            rw [hz] at e1
            generalize b &&& K = BK at *
            generalize (b - 1) &&& K = NK at *
            go_wp2
            refine ⟨⟨m + 1, by omega, ?_, ?_, by first | rfl | trivial⟩, ?_⟩
            · rw [← hp2.out]; simp
            · rw [HG1.out, hs1]; simp
            · simp only [intOf]; omega
          · rw [if_neg hz] at hs1
            have hz2 : (0 : Int) < ((ww &&& K : Nat) : Int) := by omega
            generalize ww &&& K = WK at *
            generalize b &&& K = BK at *
            generalize (b - 1) &&& K = NK at *
            go_wp2
            refine ⟨⟨m + 1, by omega, ?_, ?_, by first | rfl | trivial⟩, ?_⟩
            · rw [← hp2.out]; simp
            · rw [HG1.out, hs1]; simp
            · simp only [intOf]; omega
        · obtain rfl := pow8_not m hm hlt
          have hfin := Lib.hid ((rs_all (b - 1) b ww HN.out HS.out HW.out).trans ((congrArg (fun x => mixB x b ww) HNE.out.symm).trans HT.out.symm))
          generalize rs (b - 1) b ww 8 = G0 at *
          go_wp2
          go_ret
          first | rfl | exact ⟨rfl, rfl⟩ | exact ⟨by rw [hfin.out]; rfl, rfl⟩
    · skip
      have HNE := Lib.hid (show nD 6 b rr = b from by have := HS.out; show b - 1 = _; omega)
      have HN := Lib.hid (show b < 256 by have := HS.out; have := HR.out; omega)
      go_enter Try.func108, Try.ntmps108
      go_wp2_with fail
      go_loopw [11, 12] (fun o i wq => ∃ m : Nat, m ≤ 8 ∧ i = .int .i64 ((2 ^ m : Nat) : Int) ∧ o = .int .i64 ((rs (b) b ww m : Nat) : Int) ∧ wq = w) (fun _ i _ => (256 - intOf i).toNat)
      case atStart => exact ⟨0, Nat.zero_le _, rfl, rfl, rfl⟩
      case round =>
        obtain ⟨m, hm, rfl, rfl, rfl⟩ := hrel
        by_cases hlt : m < 8
        · have hp := pow8_cases m hlt
          have hs1 : rs (b) b ww (m + 1) = rs (b) b ww m + (if ww &&& 2 ^ m = 0 then b &&& 2 ^ m else (b) &&& 2 ^ m) := rfl
          have hl0 := rs_lt (b) b ww HN.out HS.out HW.out m hm
          have hl1 := rs_lt (b) b ww HN.out HS.out HW.out (m + 1) (by omega)
          have e1 := HWB.out _ hp.1
          have e2 := and8 (((b : Nat)) : Int) _ hp.1
          have e3 := and8 (b : Int) _ hp.1
          rw [byteN_nat (b) HN.out] at e2
          rw [byteN_nat b HS.out] at e3
          rw [show (((b : Nat)) : Int) = (b : Int) by omega] at e2
          have hK0 : 0 < 2 ^ m := Nat.two_pow_pos m
          have hp2 := Lib.hid hp.2
          have hp1 := hp.1
          clear hp
          generalize hG1 : rs (b) b ww (m + 1) = G1 at *
          generalize hG0 : rs (b) b ww m = G0 at *
          have HG1 := Lib.hid hG1
          clear hG1 hG0
          generalize hK : 2 ^ m = K at *
          have HK := Lib.hid hK
          clear hK
          have hlt256 : (K : Int) < 256 := by omega
          by_cases hz : ww &&& K = 0
          · rw [if_pos hz] at hs1
            rw [hz] at e1
            generalize b &&& K = BK at *
            generalize (b) &&& K = NK at *
            go_wp2
            refine ⟨⟨m + 1, by omega, ?_, ?_, by first | rfl | trivial⟩, ?_⟩
            · rw [← hp2.out]; simp
            · rw [HG1.out, hs1]; simp
            · simp only [intOf]; omega
          · rw [if_neg hz] at hs1
            have hz2 : (0 : Int) < ((ww &&& K : Nat) : Int) := by omega
            generalize ww &&& K = WK at *
            generalize b &&& K = BK at *
            generalize (b) &&& K = NK at *
            go_wp2
            refine ⟨⟨m + 1, by omega, ?_, ?_, by first | rfl | trivial⟩, ?_⟩
            · rw [← hp2.out]; simp
            · rw [HG1.out, hs1]; simp
            · simp only [intOf]; omega
        · obtain rfl := pow8_not m hm hlt
          have hfin := Lib.hid ((rs_all (b) b ww HN.out HS.out HW.out).trans ((congrArg (fun x => mixB x b ww) HNE.out.symm).trans HT.out.symm))
          generalize rs (b) b ww 8 = G0 at *
          go_wp2
          go_ret
          first | rfl | exact ⟨rfl, rfl⟩ | exact ⟨by rw [hfin.out]; rfl, rfl⟩
  · skip
    have HNE := Lib.hid (show nD 7 b rr = (b + 255) % 256 from by rfl)
    have HN := Lib.hid (show (b + 255) % 256 < 256 by have := HS.out; have := HR.out; omega)
    go_enter Try.func108, Try.ntmps108
    go_wp2_with fail
    go_loopw [11, 12] (fun o i wq => ∃ m : Nat, m ≤ 8 ∧ i = .int .i64 ((2 ^ m : Nat) : Int) ∧ o = .int .i64 ((rs ((b + 255) % 256) b ww m : Nat) : Int) ∧ wq = w) (fun _ i _ => (256 - intOf i).toNat)
    case atStart => exact ⟨0, Nat.zero_le _, rfl, rfl, rfl⟩
    case round =>
      obtain ⟨m, hm, rfl, rfl, rfl⟩ := hrel
      by_cases hlt : m < 8
      · have hp := pow8_cases m hlt
        have hs1 : rs ((b + 255) % 256) b ww (m + 1) = rs ((b + 255) % 256) b ww m + (if ww &&& 2 ^ m = 0 then b &&& 2 ^ m else ((b + 255) % 256) &&& 2 ^ m) := rfl
        have hl0 := rs_lt ((b + 255) % 256) b ww HN.out HS.out HW.out m hm
        have hl1 := rs_lt ((b + 255) % 256) b ww HN.out HS.out HW.out (m + 1) (by omega)
        have e1 := HWB.out _ hp.1
        have e2 := and8 ((((b + 255) % 256 : Nat)) : Int) _ hp.1
        have e3 := and8 (b : Int) _ hp.1
        rw [byteN_nat ((b + 255) % 256) HN.out] at e2
        rw [byteN_nat b HS.out] at e3
        rw [show ((((b + 255) % 256 : Nat)) : Int) = (((b : Int) + 255) % 256) by omega] at e2
        have hK0 : 0 < 2 ^ m := Nat.two_pow_pos m
        have hp2 := Lib.hid hp.2
        have hp1 := hp.1
        clear hp
        generalize hG1 : rs ((b + 255) % 256) b ww (m + 1) = G1 at *
        generalize hG0 : rs ((b + 255) % 256) b ww m = G0 at *
        have HG1 := Lib.hid hG1
        clear hG1 hG0
        generalize hK : 2 ^ m = K at *
        have HK := Lib.hid hK
        clear hK
        have hlt256 : (K : Int) < 256 := by omega
        by_cases hz : ww &&& K = 0
        · rw [if_pos hz] at hs1
          rw [hz] at e1
          generalize b &&& K = BK at *
          generalize ((b + 255) % 256) &&& K = NK at *
          go_wp2
          refine ⟨⟨m + 1, by omega, ?_, ?_, by first | rfl | trivial⟩, ?_⟩
          · rw [← hp2.out]; simp
          · rw [HG1.out, hs1]; simp
          · simp only [intOf]; omega
        · rw [if_neg hz] at hs1
          have hz2 : (0 : Int) < ((ww &&& K : Nat) : Int) := by omega
          generalize ww &&& K = WK at *
          generalize b &&& K = BK at *
          generalize ((b + 255) % 256) &&& K = NK at *
          go_wp2
          refine ⟨⟨m + 1, by omega, ?_, ?_, by first | rfl | trivial⟩, ?_⟩
          · rw [← hp2.out]; simp
          · rw [HG1.out, hs1]; simp
          · simp only [intOf]; omega
      · obtain rfl := pow8_not m hm hlt
        have hfin := Lib.hid ((rs_all ((b + 255) % 256) b ww HN.out HS.out HW.out).trans ((congrArg (fun x => mixB x b ww) HNE.out.symm).trans HT.out.symm))
        generalize rs ((b + 255) % 256) b ww 8 = G0 at *
        go_wp2
        go_ret
        first | rfl | exact ⟨rfl, rfl⟩ | exact ⟨by rw [hfin.out]; rfl, rfl⟩
  · skip
    have HNE := Lib.hid (show nD 8 b rr = 255 - b from by rfl)
    have HN := Lib.hid (show 255 - b < 256 by have := HS.out; have := HR.out; omega)
    go_enter Try.func108, Try.ntmps108
    go_wp2_with fail
    go_loopw [11, 12] (fun o i wq => ∃ m : Nat, m ≤ 8 ∧ i = .int .i64 ((2 ^ m : Nat) : Int) ∧ o = .int .i64 ((rs (255 - b) b ww m : Nat) : Int) ∧ wq = w) (fun _ i _ => (256 - intOf i).toNat)
    case atStart => exact ⟨0, Nat.zero_le _, rfl, rfl, rfl⟩
    case round =>
      obtain ⟨m, hm, rfl, rfl, rfl⟩ := hrel
      by_cases hlt : m < 8
      · have hp := pow8_cases m hlt
        have hs1 : rs (255 - b) b ww (m + 1) = rs (255 - b) b ww m + (if ww &&& 2 ^ m = 0 then b &&& 2 ^ m else (255 - b) &&& 2 ^ m) := rfl
        have hl0 := rs_lt (255 - b) b ww HN.out HS.out HW.out m hm
        have hl1 := rs_lt (255 - b) b ww HN.out HS.out HW.out (m + 1) (by omega)
        have e1 := HWB.out _ hp.1
        have e2 := and8 (((255 - b : Nat)) : Int) _ hp.1
        have e3 := and8 (b : Int) _ hp.1
        rw [byteN_nat (255 - b) HN.out] at e2
        rw [byteN_nat b HS.out] at e3
        rw [show (((255 - b : Nat)) : Int) = (255 - (b : Int)) by omega] at e2
        have hK0 : 0 < 2 ^ m := Nat.two_pow_pos m
        have hp2 := Lib.hid hp.2
        have hp1 := hp.1
        clear hp
        generalize hG1 : rs (255 - b) b ww (m + 1) = G1 at *
        generalize hG0 : rs (255 - b) b ww m = G0 at *
        have HG1 := Lib.hid hG1
        clear hG1 hG0
        generalize hK : 2 ^ m = K at *
        have HK := Lib.hid hK
        clear hK
        have hlt256 : (K : Int) < 256 := by omega
        by_cases hz : ww &&& K = 0
        · rw [if_pos hz] at hs1
          rw [hz] at e1
          generalize b &&& K = BK at *
          generalize (255 - b) &&& K = NK at *
          go_wp2
          refine ⟨⟨m + 1, by omega, ?_, ?_, by first | rfl | trivial⟩, ?_⟩
          · rw [← hp2.out]; simp
          · rw [HG1.out, hs1]; simp
          · simp only [intOf]; omega
        · rw [if_neg hz] at hs1
          have hz2 : (0 : Int) < ((ww &&& K : Nat) : Int) := by omega
          generalize ww &&& K = WK at *
          generalize b &&& K = BK at *
          generalize (255 - b) &&& K = NK at *
          go_wp2
          refine ⟨⟨m + 1, by omega, ?_, ?_, by first | rfl | trivial⟩, ?_⟩
          · rw [← hp2.out]; simp
          · rw [HG1.out, hs1]; simp
          · simp only [intOf]; omega
      · obtain rfl := pow8_not m hm hlt
        have hfin := Lib.hid ((rs_all (255 - b) b ww HN.out HS.out HW.out).trans ((congrArg (fun x => mixB x b ww) HNE.out.symm).trans HT.out.symm))
        generalize rs (255 - b) b ww 8 = G0 at *
        go_wp2
        go_ret
        first | rfl | exact ⟨rfl, rfl⟩ | exact ⟨by rw [hfin.out]; rfl, rfl⟩
  · skip
    have HNE := Lib.hid (show nD how b rr = b from by exact nD_other _ _ _ h)
    have HN := Lib.hid (show b < 256 by have := HS.out; have := HR.out; omega)
    obtain ⟨h2, h3, h4, h5, h6, h7, h8⟩ := h
    go_enter Try.func108, Try.ntmps108
    go_wp2_with fail
    go_loopw [11, 12] (fun o i wq => ∃ m : Nat, m ≤ 8 ∧ i = .int .i64 ((2 ^ m : Nat) : Int) ∧ o = .int .i64 ((rs (b) b ww m : Nat) : Int) ∧ wq = w) (fun _ i _ => (256 - intOf i).toNat)
    case atStart => exact ⟨0, Nat.zero_le _, rfl, rfl, rfl⟩
    case round =>
      obtain ⟨m, hm, rfl, rfl, rfl⟩ := hrel
      by_cases hlt : m < 8
      · have hp := pow8_cases m hlt
        have hs1 : rs (b) b ww (m + 1) = rs (b) b ww m + (if ww &&& 2 ^ m = 0 then b &&& 2 ^ m else (b) &&& 2 ^ m) := rfl
        have hl0 := rs_lt (b) b ww HN.out HS.out HW.out m hm
        have hl1 := rs_lt (b) b ww HN.out HS.out HW.out (m + 1) (by omega)
        have e1 := HWB.out _ hp.1
        have e2 := and8 (((b : Nat)) : Int) _ hp.1
        have e3 := and8 (b : Int) _ hp.1
        rw [byteN_nat (b) HN.out] at e2
        rw [byteN_nat b HS.out] at e3
        rw [show (((b : Nat)) : Int) = (b : Int) by omega] at e2
        have hK0 : 0 < 2 ^ m := Nat.two_pow_pos m
        have hp2 := Lib.hid hp.2
        have hp1 := hp.1
        clear hp
        generalize hG1 : rs (b) b ww (m + 1) = G1 at *
        generalize hG0 : rs (b) b ww m = G0 at *
        have HG1 := Lib.hid hG1
        clear hG1 hG0
        generalize hK : 2 ^ m = K at *
        have HK := Lib.hid hK
        clear hK
        have hlt256 : (K : Int) < 256 := by omega
        by_cases hz : ww &&& K = 0
        · rw [if_pos hz] at hs1
          rw [hz] at e1
          generalize b &&& K = BK at *
          generalize (b) &&& K = NK at *
          go_wp2
          refine ⟨⟨m + 1, by omega, ?_, ?_, by first | rfl | trivial⟩, ?_⟩
          · rw [← hp2.out]; simp
          · rw [HG1.out, hs1]; simp
          · simp only [intOf]; omega
        · rw [if_neg hz] at hs1
          have hz2 : (0 : Int) < ((ww &&& K : Nat) : Int) := by omega
          generalize ww &&& K = WK at *
          generalize b &&& K = BK at *
          generalize (b) &&& K = NK at *
          go_wp2
          refine ⟨⟨m + 1, by omega, ?_, ?_, by first | rfl | trivial⟩, ?_⟩
          · rw [← hp2.out]; simp
          · rw [HG1.out, hs1]; simp
          · simp only [intOf]; omega
      · obtain rfl := pow8_not m hm hlt
        have hfin := Lib.hid ((rs_all (b) b ww HN.out HS.out HW.out).trans ((congrArg (fun x => mixB x b ww) HNE.out.symm).trans HT.out.symm))
        generalize rs (b) b ww 8 = G0 at *
        go_wp2
        go_ret
        first | rfl | exact ⟨rfl, rfl⟩ | exact ⟨by rw [hfin.out]; rfl, rfl⟩
end Go.Proofs.Ytgdcdkajicgliaa
namespace Go.Proofs.Ytgdcdkajicgliaa
open Go.RowKit
set_option linter.unusedVariables false
set_option maxRecDepth 100000

set_option maxHeartbeats 4000000 in
theorem indexOut_any (b o : Nat) (cs : List Int) (hl : cs.length = 4) (w : World) (hc : ∀ j, j < 4 → w.cell? ⟨b, o + j, none⟩ = some (.int .i32 (cs.getD j 0))) :
    Calls Try.prog 115 #[.slice (some ⟨b, o, none⟩) 4 4, .func (.func 88) #[] #[]] w fun e w' => (∃ i : Int, e = .returned (.int .i64 i) ∧ decide (0 ≤ i) = cs.any outV) ∧ w = w' := by
  have HC := Lib.hid hc
  clear hc
  go_enter Try.func115, Try.ntmps115
  go_wp2_with fail
  go_loopw [8] (fun i wq => ∃ m : Nat, m ≤ 4 ∧ i = .int .i64 (m : Int) ∧ wq = w ∧ (cs.take m).any outV = false) (fun i _ => (4 - intOf i).toNat)
  case atStart => exact ⟨0, Nat.zero_le _, rfl, rfl, rfl⟩
  case round =>
    obtain ⟨m, hm, rfl, rfl, hno⟩ := hrel
    by_cases hlt : m < 4
    · have hc := HC.out m hlt
      have HNO := Lib.hid hno
      clear hno
      have hml : (m : Int) < 4 := by omega
      have hgd : cs[m]? = some (cs.getD m 0) := by rw [List.getD_eq_getElem?_getD, List.getElem?_eq_getElem (by omega)]; rfl
      have hstep : (cs.take (m + 1)).any outV = outV (cs.getD m 0) := by
        rw [List.take_add_one, hgd, List.any_append, HNO.out]
        simp
      have HST := Lib.hid hstep
      clear hstep hgd
      generalize hx : cs.getD m 0 = x at *
      clear hx
      go_wp2_with fail
      refine (outside_any _ _).mono ?_
      rintro _ _ ⟨rfl, rfl⟩
      by_cases hov : outV x = true
      · go_wp2
        all_goals go_ret
        refine ⟨⟨_, rfl, ?_⟩, rfl⟩
        rw [← List.take_append_drop (m + 1) cs, List.any_append, HST.out, hov]
        simp
      · have hov2 : outV x = false := by simpa using hov
        go_wp2
        refine ⟨⟨m + 1, by omega, by simp, by first | rfl | trivial, by rw [HST.out, hov2]⟩, ?_⟩
        simp only [intOf]
        omega
    · obtain rfl : m = 4 := by omega
      go_wp2
      go_ret
      refine ⟨⟨_, rfl, ?_⟩, rfl⟩
      rw [List.take_of_length_le (by omega)] at hno
      rw [hno]
      rfl
theorem containsOut_any (b o : Nat) (cs : List Int) (hl : cs.length = 4) (w : World) (hc : ∀ j, j < 4 → w.cell? ⟨b, o + j, none⟩ = some (.int .i32 (cs.getD j 0))) :
    Calls Try.prog 87 #[.slice (some ⟨b, o, none⟩) 4 4, .func (.func 88) #[] #[]] w fun e w' => e = .returned (.bool (cs.any outV)) ∧ w = w' := by
  have HC := Lib.hid hc
  clear hc
  go_enter Try.func87, Try.ntmps87
  go_wp2_with fail
  refine (indexOut_any b o cs hl w HC.out).mono ?_
  rintro _ _ ⟨⟨i, rfl, hi⟩, rfl⟩
  have hi := Lib.hid hi
  go_wp2
  go_ret
  exact ⟨ret_bool (by rw [← hi.out]), rfl⟩
end Go.Proofs.Ytgdcdkajicgliaa
