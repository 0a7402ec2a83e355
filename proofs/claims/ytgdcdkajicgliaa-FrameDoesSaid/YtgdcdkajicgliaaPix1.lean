/- Contracts of pixel's numbers: bits, number, Bits, Number; the document's power, Bits, Number. Conditions: each theorem's own premises. Contracts of pixel's formats, find, grey, Size; the document's Size. Conditions: each theorem's own premises. Contracts of pixel's find, grey, Size; the document's Size. Conditions: each theorem's own premises. Pixel's formats as data; find at whatever format. Conditions: each theorem's own premises. Unpack where it refuses; the document's Size, widths, Unpack. Conditions: each theorem's own premises. The document's Unpack, in the four formats that draw. Conditions: each theorem's own premises. The document's Unpack, in the formats of 16 bits. Conditions: each theorem's own premises. -/
import Derived.Test.YtgdcdkajicgliaaRows
import Derived.Test.YtgdcdkajicgliaaBitsN
import Derived.Test.YtgdcdkajicgliaaBlk
import Derived.Test.YtgdcdkajicgliaaOpen
import Derived.Lib.Hide
import Derived.Deep.RegionWith
import Derived.Deep.DrawnRows
import Derived.Deep.RegionHeld3
namespace Go.Proofs.Ytgdcdkajicgliaa
open Go.RowKit
set_option linter.unusedVariables false
set_option maxRecDepth 100000

def clP (x : Int) : Int := if x < 0 then 0 else if 65536 < x then 65536 else x
def bitsV (x : Int) (k : Nat) : Int := (clP x * (2 ^ k - 1) + 32768) / 65536
def numV (x : Int) (k : Nat) : Int := (x * 65536 + (2 ^ k - 1) / 2) / (2 ^ k - 1)
theorem clP_bd (x : Int) : 0 ≤ clP x ∧ clP x ≤ 65536 := by unfold clP; split <;> (try split) <;> omega
theorem pow_bd (k : Nat) (h1 : 1 ≤ k) (h2 : k ≤ 16) : (2 : Int) ≤ 2 ^ k ∧ (2 : Int) ^ k ≤ 65536 := by
  have a : (2 : Int) ^ 1 ≤ 2 ^ k := by exact_mod_cast Nat.pow_le_pow_right (by decide) h1
  have b : (2 : Int) ^ k ≤ 2 ^ 16 := by exact_mod_cast Nat.pow_le_pow_right (by decide) h2
  exact ⟨by simpa using a, by simpa using b⟩
theorem w64_in (n : Int) (h : -9223372036854775808 ≤ n ∧ n < 9223372036854775808) : wrap64 n = n := by
  unfold wrap64
  omega
theorem bits_bd (x : Int) (k : Nat) (h1 : 1 ≤ k) (h2 : k ≤ 16) : 0 ≤ bitsV x k ∧ bitsV x k < 2 ^ k := by
  obtain ⟨p1, p2⟩ := pow_bd k h1 h2
  obtain ⟨c1, c2⟩ := clP_bd x
  unfold bitsV
  generalize (2 : Int) ^ k = P at *
  have m1 : 0 ≤ clP x * (P - 1) := Int.mul_nonneg c1 (by omega)
  have m2 : clP x * (P - 1) ≤ 65536 * (P - 1) := Int.mul_le_mul_of_nonneg_right c2 (by omega)
  generalize clP x * (P - 1) = M at *
  omega
theorem bits_core (c : Int) (k : Nat) (h0 : 0 ≤ c) (hc : c ≤ 65536) (h1 : 1 ≤ k) (h2 : k ≤ 16) :
    wrap64 (wrap64 (c * wrap64 (wrap64 (2 ^ k) - 1)) + 32768) / 65536 % 4294967296 = (c * (2 ^ k - 1) + 32768) / 65536 := by
  obtain ⟨p1, p2⟩ := pow_bd k h1 h2
  generalize (2 : Int) ^ k = P at *
  rw [w64_in P (by omega), w64_in (P - 1) (by omega)]
  have m1 : 0 ≤ c * (P - 1) := Int.mul_nonneg h0 (by omega)
  have m2 : c * (P - 1) ≤ 65536 * (P - 1) := Int.mul_le_mul_of_nonneg_right hc (by omega)
  generalize c * (P - 1) = M at *
  rw [w64_in M (by omega), w64_in (M + 32768) (by omega)]
  omega

theorem bits_any (x : Int) (k : Nat) (w : World) (hx : -2147483648 ≤ x ∧ x ≤ 2147483647) (h1 : 1 ≤ k) (h2 : k ≤ 16) : Calls Try.prog 94 #[.int .i32 x, .int .i64 (k : Int)] w fun e w' => e = .returned (.int .u32 (bitsV x k)) ∧ w = w' := by
  have k1 : (1 : Int) ≤ (k : Int) := by omega
  have k2 : (k : Int) ≤ 16 := by omega
  rcases Int.lt_or_le x 0 with hn | hn
  · have HC := Lib.hid (bits_core 0 k (by omega) (by omega) h1 h2)
    have HV := Lib.hid (show bitsV x k = (0 * (2 ^ k - 1) + 32768) / 65536 by unfold bitsV clP; rw [if_pos hn])
    go_enter Try.func94, Try.ntmps94
    go_wp2
    all_goals go_ret
    all_goals refine ⟨ret_int ?_, rfl⟩
    all_goals rw [HV.out]
    all_goals simp
  · rcases Int.lt_or_le 65536 x with hb | hb
    · have HC := Lib.hid (bits_core 65536 k (by omega) (by omega) h1 h2)
      have HV := Lib.hid (show bitsV x k = (65536 * (2 ^ k - 1) + 32768) / 65536 by unfold bitsV clP; rw [if_neg (by omega), if_pos hb])
      go_enter Try.func94, Try.ntmps94
      go_wp2
      all_goals go_ret
      all_goals refine ⟨ret_int ?_, rfl⟩
      all_goals rw [HV.out]
      all_goals exact HC.out
    · have HC := Lib.hid (bits_core x k (by omega) (by omega) h1 h2)
      have HV := Lib.hid (show bitsV x k = (x * (2 ^ k - 1) + 32768) / 65536 by unfold bitsV clP; rw [if_neg (by omega), if_neg (by omega)])
      go_enter Try.func94, Try.ntmps94
      go_wp2
      all_goals go_ret
      all_goals refine ⟨ret_int ?_, rfl⟩
      all_goals rw [HV.out]
      all_goals exact HC.out

theorem num_bd (x : Int) (k : Nat) (h0 : 0 ≤ x) (hx : x < 2 ^ k) (h1 : 1 ≤ k) (h2 : k ≤ 16) : 0 ≤ numV x k ∧ numV x k ≤ 65536 := by
  obtain ⟨p1, p2⟩ := pow_bd k h1 h2
  unfold numV
  generalize (2 : Int) ^ k = P at *
  constructor
  · exact Int.ediv_nonneg (by omega) (by omega)
  · have : (x * 65536 + (P - 1) / 2) / (P - 1) < 65537 := by
      refine Int.ediv_lt_of_lt_mul (by omega) ?_
      omega
    omega
theorem w32_in (n : Int) (h : -2147483648 ≤ n ∧ n < 2147483648) : wrap32 n = n := by
  unfold wrap32
  omega
theorem num_core (x : Int) (k : Nat) (h0 : 0 ≤ x) (hx : x < 2 ^ k) (h1 : 1 ≤ k) (h2 : k ≤ 16) :
    wrap32 (wrap64 ((wrap64 (wrap64 (wrap64 x * 65536) + wrap64 ((wrap64 (wrap64 (2 ^ k) - 1)).tdiv 2))).tdiv (wrap64 (wrap64 (2 ^ k) - 1)))) = numV x k := by
  have hb := num_bd x k h0 hx h1 h2
  obtain ⟨p1, p2⟩ := pow_bd k h1 h2
  unfold numV at *
  generalize (2 : Int) ^ k = P at *
  rw [w64_in x (by omega), w64_in P (by omega), w64_in (P - 1) (by omega), w64_in (x * 65536) (by omega), Int.tdiv_eq_ediv_of_nonneg (show (0 : Int) ≤ P - 1 by omega), w64_in ((P - 1) / 2) (by omega), w64_in (x * 65536 + (P - 1) / 2) (by omega), Int.tdiv_eq_ediv_of_nonneg (show (0 : Int) ≤ x * 65536 + (P - 1) / 2 by omega)]
  generalize (x * 65536 + (P - 1) / 2) / (P - 1) = D at *
  rw [w64_in D (by omega), w32_in D (by omega)]

theorem number_any (x : Int) (k : Nat) (w : World) (hx0 : 0 ≤ x) (hx : x < 2 ^ k) (h1 : 1 ≤ k) (h2 : k ≤ 16) : Calls Try.prog 116 #[.int .u32 x, .int .i64 (k : Int)] w fun e w' => e = .returned (.int .i32 (numV x k)) ∧ w = w' := by
  have k1 : (1 : Int) ≤ (k : Int) := by omega
  have k2 : (k : Int) ≤ 16 := by omega
  have hnz : ¬ wrap64 (wrap64 (2 ^ k) - 1) = 0 := by
    obtain ⟨p1, p2⟩ := pow_bd k h1 h2
    rw [w64_in (2 ^ k) (by omega), w64_in (2 ^ k - 1) (by omega)]
    omega
  have HC := Lib.hid (num_core x k hx0 hx h1 h2)
  clear hx
  go_enter Try.func116, Try.ntmps116
  go_wp2
  all_goals go_ret
  all_goals refine ⟨ret_int ?_, rfl⟩
  all_goals exact HC.out
/-- Which numbers may be asked of. -/
def kOk (k : Int) : Bool := decide (1 ≤ k) && decide (k ≤ 16)

theorem Bits_ok (x : Int) (k : Nat) (w : World) (hx : -2147483648 ≤ x ∧ x ≤ 2147483647) (h1 : 1 ≤ k) (h2 : k ≤ 16) : Calls Try.prog 93 #[.int .i32 x, .int .i64 (k : Int)] w fun e w' => e = .returned (.tuple #[.int .u32 (bitsV x k), .int .i64 0]) ∧ w = w' := by
  have k1 : (1 : Int) ≤ (k : Int) := by omega
  have k2 : (k : Int) ≤ 16 := by omega
  go_enter Try.func93, Try.ntmps93
  go_wp2_with (go_at_call 94; refine (bits_any x k _ hx h1 h2).mono ?_; rintro e w1 ⟨rfl, rfl⟩)
  go_ret2
  exact ⟨rfl, rfl⟩
theorem Bits_bad (x k : Int) (w : World) (h : k < 1 ∨ 16 < k) : Calls Try.prog 93 #[.int .i32 x, .int .i64 k] w fun e w' => e = .returned (.tuple #[.int .u32 0, .int .i64 2]) ∧ w = w' := by
  by_cases h1 : k < 1
  · clear h
    go_enter Try.func93, Try.ntmps93
    go_wp2
    go_ret2
    exact ⟨rfl, rfl⟩
  · have h2 : 16 < k := by omega
    clear h
    go_enter Try.func93, Try.ntmps93
    go_wp2
    go_ret2
    exact ⟨rfl, rfl⟩

theorem Number_ok (x : Int) (k : Nat) (w : World) (hx0 : 0 ≤ x) (hx : x < 2 ^ k) (h1 : 1 ≤ k) (h2 : k ≤ 16) : Calls Try.prog 92 #[.int .u32 x, .int .i64 (k : Int)] w fun e w' => e = .returned (.tuple #[.int .i32 (numV x k), .int .i64 0]) ∧ w = w' := by
  have k1 : (1 : Int) ≤ (k : Int) := by omega
  have k2 : (k : Int) ≤ 16 := by omega
  have hd : x / 2 ^ k = 0 := Int.ediv_eq_zero_of_lt hx0 hx
  have HX := Lib.hid hx
  clear hx
  go_enter Try.func92, Try.ntmps92
  go_wp2_with (go_at_call 116; refine (number_any x k _ hx0 HX.out h1 h2).mono ?_; rintro e w1 ⟨rfl, rfl⟩)
  go_ret2
  exact ⟨rfl, rfl⟩
theorem Number_bad (x k : Int) (w : World) (h : k < 1 ∨ 16 < k) : Calls Try.prog 92 #[.int .u32 x, .int .i64 k] w fun e w' => e = .returned (.tuple #[.int .i32 0, .int .i64 2]) ∧ w = w' := by
  by_cases h1 : k < 1
  · clear h
    go_enter Try.func92, Try.ntmps92
    go_wp2
    go_ret2
    exact ⟨rfl, rfl⟩
  · have h2 : 16 < k := by omega
    clear h
    go_enter Try.func92, Try.ntmps92
    go_wp2
    go_ret2
    exact ⟨rfl, rfl⟩
theorem Number_great (x : Int) (k : Nat) (w : World) (hx0 : 0 ≤ x) (hx : 2 ^ k ≤ x) (h1 : 1 ≤ k) (h2 : k ≤ 16) : Calls Try.prog 92 #[.int .u32 x, .int .i64 (k : Int)] w fun e w' => e = .returned (.tuple #[.int .i32 0, .int .i64 2]) ∧ w = w' := by
  have k1 : (1 : Int) ≤ (k : Int) := by omega
  have k2 : (k : Int) ≤ 16 := by omega
  have hd : ¬ x / 2 ^ k = 0 := by
    have hp := (pow_bd k h1 h2).1
    have : 1 ≤ x / 2 ^ k := by
      rw [Int.le_ediv_iff_mul_le (by omega)]
      omega
    omega
  have hd' : (x / 2 ^ k != 0) = true := by simpa using hd
  clear hx hd
  go_enter Try.func92, Try.ntmps92
  go_wp2
  all_goals go_ret2
  all_goals exact ⟨rfl, rfl⟩

theorem power_any (k : Nat) (w : World) (hk : k ≤ 62) : Calls Try.prog 105 #[.int .i64 (k : Int)] w fun e w' => e = .returned (.int .i64 (2 ^ k)) ∧ w = w' := by
  go_enter Try.func105, Try.ntmps105
  go_wp2
  go_loop [3, 4] (fun x i => ∃ m : Nat, m ≤ k ∧ i = .int .i64 m ∧ x = .int .i64 (2 ^ m)) (fun _ i => k - (intOf i).toNat)
  case atStart => exact ⟨0, Nat.zero_le _, rfl, rfl⟩
  case round =>
    obtain ⟨m, hm, rfl, rfl⟩ := hrel
    by_cases hlt : m < k
    · have hml : (m : Int) < (k : Int) := by omega
      have hp := Lib.hid (show wrap64 (2 ^ m * 2) = 2 ^ (m + 1) by
        have : (2 : Int) ^ (m + 1) ≤ 2 ^ 62 := by exact_mod_cast Nat.pow_le_pow_right (by decide) (by omega : m + 1 ≤ 62)
        have h0 : (0 : Int) < 2 ^ (m + 1) := by exact_mod_cast Nat.pow_pos (by decide)
        rw [← Int.pow_succ]
        exact w64_in _ (by omega))
      go_wp2
      go_round
      case rel => exact ⟨m + 1, by omega, by go_num, by rw [hp.out]⟩
      case measure => simp [intOf]; omega
    · obtain rfl : m = k := by omega
      go_wp2
      go_ret
      exact ⟨rfl, rfl⟩

theorem refBits_any (x : Int) (k : Nat) (w : World) (hx : -2147483648 ≤ x ∧ x ≤ 2147483647) (h1 : 1 ≤ k) (h2 : k ≤ 16) : Calls Try.prog 72 #[.int .i32 x, .int .i64 (k : Int)] w fun e w' => e = .returned (.int .u32 (bitsV x k)) ∧ w = w' := by
  have h0 : clP x = if x < 0 then 0 else if 65536 < x then 65536 else x := rfl
  have hc := clP_bd x
  have core : ∀ c : Int, 0 ≤ c → c ≤ 65536 → clP x = c → Hid (wrap64 ((wrap64 (wrap64 (c * wrap64 (2 ^ k - 1)) + 32768)).tdiv 65536) % 4294967296 = bitsV x k) := fun c c0 c1 hc => by
    show _ = _
    unfold bitsV
    rw [hc]
    obtain ⟨p1, p2⟩ := pow_bd k h1 h2
    generalize (2 : Int) ^ k = P at *
    rw [w64_in (P - 1) (by omega)]
    have m1 : 0 ≤ c * (P - 1) := Int.mul_nonneg c0 (by omega)
    have m2 : c * (P - 1) ≤ 65536 * (P - 1) := Int.mul_le_mul_of_nonneg_right c1 (by omega)
    generalize c * (P - 1) = M at *
    rw [w64_in M (by omega), w64_in (M + 32768) (by omega), Int.tdiv_eq_ediv_of_nonneg (by omega), w64_in ((M + 32768) / 65536) (by omega)]
    omega
  rcases Int.lt_or_le x 0 with hn | hn
  · have HC := core 0 (by omega) (by omega) (by rw [h0, if_pos hn])
    clear core h0 hc
    go_enter Try.func72, Try.ntmps72
    go_wp2_with (go_at_call 105; refine (power_any k _ (by omega)).mono ?_; rintro e w1 ⟨rfl, rfl⟩)
    go_ret
    refine ⟨ret_int ?_, rfl⟩
    exact Eq.trans (by rw [Int.zero_mul]; decide +kernel) HC.out
  · rcases Int.lt_or_le 65536 x with hb | hb
    · have HC := core 65536 (by omega) (by omega) (by rw [h0, if_neg (by omega), if_pos hb])
      clear core h0 hc
      go_enter Try.func72, Try.ntmps72
      go_wp2_with (go_at_call 105; refine (power_any k _ (by omega)).mono ?_; rintro e w1 ⟨rfl, rfl⟩)
      go_ret
      refine ⟨ret_int ?_, rfl⟩
      exact HC.out
    · have HC := core x (by omega) (by omega) (by rw [h0, if_neg (by omega), if_neg (by omega)])
      clear core h0 hc
      go_enter Try.func72, Try.ntmps72
      go_wp2_with (go_at_call 105; refine (power_any k _ (by omega)).mono ?_; rintro e w1 ⟨rfl, rfl⟩)
      go_ret
      refine ⟨ret_int ?_, rfl⟩
      exact HC.out

theorem refNumber_any (x : Int) (k : Nat) (w : World) (hx0 : 0 ≤ x) (hx : x < 2 ^ k) (h1 : 1 ≤ k) (h2 : k ≤ 16) : Calls Try.prog 112 #[.int .u32 x, .int .i64 (k : Int)] w fun e w' => e = .returned (.int .i32 (numV x k)) ∧ w = w' := by
  have hnz : ¬ wrap64 (2 ^ k - 1) = 0 := by
    obtain ⟨p1, p2⟩ := pow_bd k h1 h2
    rw [w64_in (2 ^ k - 1) (by omega)]
    omega
  have HC : Hid (wrap32 (wrap64 ((wrap64 (wrap64 (wrap64 x * 65536) + wrap64 ((wrap64 (2 ^ k - 1)).tdiv 2))).tdiv (wrap64 (2 ^ k - 1)))) = numV x k) := by
    have := num_core x k hx0 hx h1 h2
    obtain ⟨p1, p2⟩ := pow_bd k h1 h2
    rw [w64_in (2 ^ k) (by omega)] at this
    exact this
  clear hx
  go_enter Try.func112, Try.ntmps112
  go_wp2_with (go_at_call 105; refine (power_any k _ (by omega)).mono ?_; rintro e w1 ⟨rfl, rfl⟩)
  go_ret
  refine ⟨ret_int ?_, rfl⟩
  exact HC.out
end Go.Proofs.Ytgdcdkajicgliaa
namespace Go.Proofs.Ytgdcdkajicgliaa
open Go.RowKit
set_option linter.unusedVariables false
set_option maxRecDepth 100000

/-- New blocks, one behind the other. -/
def allocs (w : World) (l : List Obj) : World := l.foldl World.alloc w
theorem allocs_ext (l : List Obj) : ∀ w, Ext w (allocs w l) := by
  induction l with
  | nil => intro w; exact Ext.refl w
  | cons o l ih => intro w; exact ((Ext.refl w).alloc o).trans (ih _)
theorem allocs_heap (l : List Obj) : ∀ (w : World) (i : Nat) (o : Obj), l[i]? = some o → (allocs w l).heap[w.heap.size + i]? = some o := by
  induction l with
  | nil => intro w i o h; simp at h
  | cons x l ih =>
    intro w i o h
    cases i with
    | zero =>
      simp only [List.getElem?_cons_zero, Option.some.injEq] at h
      subst h
      exact (allocs_ext l _).heap (heap_alloc_new w x)
    | succ i =>
      have := ih (w.alloc x) i o (by simpa using h)
      rw [World.size_alloc] at this
      rw [show w.heap.size + (i + 1) = w.heap.size + 1 + i by omega]
      exact this

/-- A format's channels. -/
def chC : Nat → Array Value
  | 1 => #[.int .i64 0, .int .i64 8, .int .i64 0, .int .i64 1, .int .i64 8, .int .i64 8, .int .i64 2, .int .i64 8, .int .i64 16, .int .i64 3, .int .i64 8, .int .i64 24]
  | 2 => #[.int .i64 0, .int .i64 5, .int .i64 11, .int .i64 1, .int .i64 6, .int .i64 5, .int .i64 2, .int .i64 5, .int .i64 0]
  | 3 => #[.int .i64 0, .int .i64 4, .int .i64 12, .int .i64 1, .int .i64 4, .int .i64 8, .int .i64 2, .int .i64 4, .int .i64 4, .int .i64 3, .int .i64 4, .int .i64 0]
  | 4 => #[.int .i64 0, .int .i64 5, .int .i64 11, .int .i64 1, .int .i64 5, .int .i64 6, .int .i64 2, .int .i64 5, .int .i64 1, .int .i64 3, .int .i64 1, .int .i64 0]
  | 5 => #[.int .i64 0, .int .i64 8, .int .i64 0]
  | 6 => #[.int .i64 3, .int .i64 8, .int .i64 0]
  | 7 => #[.int .i64 0, .int .i64 8, .int .i64 0, .int .i64 3, .int .i64 8, .int .i64 8]
  | _ => #[]
/-- All formats, their channels in blocks. -/
def fmtC (c : Nat → Nat) : Array Value := #[.int .i64 0, .slice none 0 0, .int .i32 0, .int .i32 0, .int .i32 0, .int .i32 0, .int .i64 4, .slice (some ⟨c 1, 0, none⟩) 4 4, .int .i32 0, .int .i32 0, .int .i32 0, .int .i32 0, .int .i64 2, .slice (some ⟨c 2, 0, none⟩) 3 3, .int .i32 0, .int .i32 0, .int .i32 0, .int .i32 65536, .int .i64 2, .slice (some ⟨c 3, 0, none⟩) 4 4, .int .i32 0, .int .i32 0, .int .i32 0, .int .i32 0, .int .i64 2, .slice (some ⟨c 4, 0, none⟩) 4 4, .int .i32 0, .int .i32 0, .int .i32 0, .int .i32 0, .int .i64 1, .slice (some ⟨c 5, 0, none⟩) 1 1, .int .i32 0, .int .i32 0, .int .i32 0, .int .i32 65536, .int .i64 1, .slice (some ⟨c 6, 0, none⟩) 1 1, .int .i32 0, .int .i32 0, .int .i32 0, .int .i32 0, .int .i64 2, .slice (some ⟨c 7, 0, none⟩) 2 2, .int .i32 0, .int .i32 0, .int .i32 0, .int .i32 0]

set_option maxHeartbeats 2000000 in
set_option maxRecDepth 20000 in
theorem formats_any (w : World) : Calls Try.prog 114 #[] w fun e w' => ∃ (b : Nat) (c : Nat → Nat), e = .returned (.slice (some ⟨b, 0, none⟩) 8 8) ∧ w'.heap[b]? = some (.cells (fmtC c) 159 (0, 0)) ∧
    (∀ n, 1 ≤ n → n ≤ 7 → w'.heap[c n]? = some (.cells (chC n) 173 (0, 0))) ∧ (∀ n, w.heap.size ≤ c n) ∧ Ext w w' := by
  go_enter Try.func114, Try.ntmps114
  go_wp2
  refine bodyPost_ret (results_tmp rfl _ _ _) rfl ?_
  refine ⟨w.heap.size + 8, fun n => w.heap.size + n, rfl, allocs_heap [_, _, _, _, _, _, _, _, _] w 8 _ rfl, fun n h1 h7 => ?_, fun n => Nat.le_add_right _ _, allocs_ext [_, _, _, _, _, _, _, _, _] w⟩
  have : n = 1 ∨ n = 2 ∨ n = 3 ∨ n = 4 ∨ n = 5 ∨ n = 6 ∨ n = 7 := by omega
  rcases this with rfl | rfl | rfl | rfl | rfl | rfl | rfl
  · exact allocs_heap [_, _, _, _, _, _, _, _, _] w 1 _ rfl
  · exact allocs_heap [_, _, _, _, _, _, _, _, _] w 2 _ rfl
  · exact allocs_heap [_, _, _, _, _, _, _, _, _] w 3 _ rfl
  · exact allocs_heap [_, _, _, _, _, _, _, _, _] w 4 _ rfl
  · exact allocs_heap [_, _, _, _, _, _, _, _, _] w 5 _ rfl
  · exact allocs_heap [_, _, _, _, _, _, _, _, _] w 6 _ rfl
  · exact allocs_heap [_, _, _, _, _, _, _, _, _] w 7 _ rfl
end Go.Proofs.Ytgdcdkajicgliaa
namespace Go.Proofs.Ytgdcdkajicgliaa
open Go.RowKit
set_option linter.unusedVariables false
set_option maxRecDepth 100000

theorem results_cell2 {P : Program} {fn : Func} {a t : Tmp} {T : TypeId} (h : fn.results = #[.cell a T, .tmp t]) (tmps : Array Value) (w : World) (x : Addr) (v : Value) (hp : tmps.getD a undef = .pointer (some x)) (hl : (loadVar T x).run P w = .ok v w) :
    (results fn tmps).run P w = .ok (.tuple #[v, tmps.getD t undef]) w := by
  have hp' : tmps[a]?.getD undef = .pointer (some x) := by rw [← hp]; simp
  simp [results, h, hp', hl, asAddr]
theorem zero_format (w : World) : (zeroValue 159).run Try.prog w = .ok (.agg #[.int .i64 0, .slice none 0 0, .int .i32 0, .int .i32 0, .int .i32 0, .int .i32 0]) w := by kernel_rfl
theorem info_format : (Try.prog.info? 159).map (·.size) = some 6 := by kernel_rfl

set_option maxHeartbeats 1000000 in
theorem find_1 (w : World) : Calls Try.prog 85 #[.int .i64 1] w fun e w' => ∃ c, e = .returned (.tuple #[.agg #[.int .i64 4, .slice (some ⟨c, 0, none⟩) 4 4, .int .i32 0, .int .i32 0, .int .i32 0, .int .i32 0], .bool true]) ∧ w'.heap[c]? = some (.cells (chC 1) 173 (0, 0)) ∧ w.heap.size ≤ c ∧ Ext w w' := by
  have hz := zero_format
  have hfo := Lib.hid (formats_any (w.alloc (.cells #[.int .i64 0, .slice none 0 0, .int .i32 0, .int .i32 0, .int .i32 0, .int .i32 0] 159)))
  go_enter Try.func85, Try.ntmps85
  go_wp2_with (first | (go_at_call 114; refine hfo.out.mono ?_; rintro e w1 ⟨b, c, rfl, hb, hc, hcw, hx⟩; have hblk := hx.heap (heap_alloc_new _ _); have hch := Lib.hid (hc 1 (by decide) (by decide)); have hcn := hcw 1; have k0 : w1.cell? ⟨b, 6, none⟩ = some (.int .i64 4) := cell_of_heap hb rfl; have k1 : w1.cell? ⟨b, 7, none⟩ = some (.slice (some ⟨c 1, 0, none⟩) 4 4) := cell_of_heap hb rfl; have k2 : w1.cell? ⟨b, 8, none⟩ = some (.int .i32 0) := cell_of_heap hb rfl; have k3 : w1.cell? ⟨b, 9, none⟩ = some (.int .i32 0) := cell_of_heap hb rfl; have k4 : w1.cell? ⟨b, 10, none⟩ = some (.int .i32 0) := cell_of_heap hb rfl; have k5 : w1.cell? ⟨b, 11, none⟩ = some (.int .i32 0) := cell_of_heap hb rfl; clear hb hc hcw) | (refine wpList_store_whole rfl 159 _ _ rfl w.heap.size #[.int .i64 4, .slice (some ⟨c 1, 0, none⟩) 4 4, .int .i32 0, .int .i32 0, .int .i32 0, .int .i32 0] rfl rfl _ 159 hblk rfl info_format (by simp [Value.oneCell']) ?_; intro w2 hw2 hc2))
  have hload := run_loadVar_whole (P := Try.prog) 159 _ hw2 Try.underlying159 rfl info_format
  refine bodyPost_ret (results_cell2 rfl _ _ _ _ rfl hload) rfl ?_
  rw [World.size_alloc] at hcn
  exact ⟨c 1, rfl, hc2.heap hch.out (by simp; omega), by omega, ((((Ext.refl w).alloc _).trans hx)).chgTrans hc2 (by simp)⟩

set_option maxHeartbeats 1000000 in
theorem find_2 (w : World) : Calls Try.prog 85 #[.int .i64 2] w fun e w' => ∃ c, e = .returned (.tuple #[.agg #[.int .i64 2, .slice (some ⟨c, 0, none⟩) 3 3, .int .i32 0, .int .i32 0, .int .i32 0, .int .i32 65536], .bool true]) ∧ w'.heap[c]? = some (.cells (chC 2) 173 (0, 0)) ∧ w.heap.size ≤ c ∧ Ext w w' := by
  have hz := zero_format
  have hfo := Lib.hid (formats_any (w.alloc (.cells #[.int .i64 0, .slice none 0 0, .int .i32 0, .int .i32 0, .int .i32 0, .int .i32 0] 159)))
  go_enter Try.func85, Try.ntmps85
  go_wp2_with (first | (go_at_call 114; refine hfo.out.mono ?_; rintro e w1 ⟨b, c, rfl, hb, hc, hcw, hx⟩; have hblk := hx.heap (heap_alloc_new _ _); have hch := Lib.hid (hc 2 (by decide) (by decide)); have hcn := hcw 2; have k0 : w1.cell? ⟨b, 12, none⟩ = some (.int .i64 2) := cell_of_heap hb rfl; have k1 : w1.cell? ⟨b, 13, none⟩ = some (.slice (some ⟨c 2, 0, none⟩) 3 3) := cell_of_heap hb rfl; have k2 : w1.cell? ⟨b, 14, none⟩ = some (.int .i32 0) := cell_of_heap hb rfl; have k3 : w1.cell? ⟨b, 15, none⟩ = some (.int .i32 0) := cell_of_heap hb rfl; have k4 : w1.cell? ⟨b, 16, none⟩ = some (.int .i32 0) := cell_of_heap hb rfl; have k5 : w1.cell? ⟨b, 17, none⟩ = some (.int .i32 65536) := cell_of_heap hb rfl; clear hb hc hcw) | (refine wpList_store_whole rfl 159 _ _ rfl w.heap.size #[.int .i64 2, .slice (some ⟨c 2, 0, none⟩) 3 3, .int .i32 0, .int .i32 0, .int .i32 0, .int .i32 65536] rfl rfl _ 159 hblk rfl info_format (by simp [Value.oneCell']) ?_; intro w2 hw2 hc2))
  have hload := run_loadVar_whole (P := Try.prog) 159 _ hw2 Try.underlying159 rfl info_format
  refine bodyPost_ret (results_cell2 rfl _ _ _ _ rfl hload) rfl ?_
  rw [World.size_alloc] at hcn
  exact ⟨c 2, rfl, hc2.heap hch.out (by simp; omega), by omega, ((((Ext.refl w).alloc _).trans hx)).chgTrans hc2 (by simp)⟩

set_option maxHeartbeats 1000000 in
theorem find_3 (w : World) : Calls Try.prog 85 #[.int .i64 3] w fun e w' => ∃ c, e = .returned (.tuple #[.agg #[.int .i64 2, .slice (some ⟨c, 0, none⟩) 4 4, .int .i32 0, .int .i32 0, .int .i32 0, .int .i32 0], .bool true]) ∧ w'.heap[c]? = some (.cells (chC 3) 173 (0, 0)) ∧ w.heap.size ≤ c ∧ Ext w w' := by
  have hz := zero_format
  have hfo := Lib.hid (formats_any (w.alloc (.cells #[.int .i64 0, .slice none 0 0, .int .i32 0, .int .i32 0, .int .i32 0, .int .i32 0] 159)))
  go_enter Try.func85, Try.ntmps85
  go_wp2_with (first | (go_at_call 114; refine hfo.out.mono ?_; rintro e w1 ⟨b, c, rfl, hb, hc, hcw, hx⟩; have hblk := hx.heap (heap_alloc_new _ _); have hch := Lib.hid (hc 3 (by decide) (by decide)); have hcn := hcw 3; have k0 : w1.cell? ⟨b, 18, none⟩ = some (.int .i64 2) := cell_of_heap hb rfl; have k1 : w1.cell? ⟨b, 19, none⟩ = some (.slice (some ⟨c 3, 0, none⟩) 4 4) := cell_of_heap hb rfl; have k2 : w1.cell? ⟨b, 20, none⟩ = some (.int .i32 0) := cell_of_heap hb rfl; have k3 : w1.cell? ⟨b, 21, none⟩ = some (.int .i32 0) := cell_of_heap hb rfl; have k4 : w1.cell? ⟨b, 22, none⟩ = some (.int .i32 0) := cell_of_heap hb rfl; have k5 : w1.cell? ⟨b, 23, none⟩ = some (.int .i32 0) := cell_of_heap hb rfl; clear hb hc hcw) | (refine wpList_store_whole rfl 159 _ _ rfl w.heap.size #[.int .i64 2, .slice (some ⟨c 3, 0, none⟩) 4 4, .int .i32 0, .int .i32 0, .int .i32 0, .int .i32 0] rfl rfl _ 159 hblk rfl info_format (by simp [Value.oneCell']) ?_; intro w2 hw2 hc2))
  have hload := run_loadVar_whole (P := Try.prog) 159 _ hw2 Try.underlying159 rfl info_format
  refine bodyPost_ret (results_cell2 rfl _ _ _ _ rfl hload) rfl ?_
  rw [World.size_alloc] at hcn
  exact ⟨c 3, rfl, hc2.heap hch.out (by simp; omega), by omega, ((((Ext.refl w).alloc _).trans hx)).chgTrans hc2 (by simp)⟩

set_option maxHeartbeats 1000000 in
theorem find_4 (w : World) : Calls Try.prog 85 #[.int .i64 4] w fun e w' => ∃ c, e = .returned (.tuple #[.agg #[.int .i64 2, .slice (some ⟨c, 0, none⟩) 4 4, .int .i32 0, .int .i32 0, .int .i32 0, .int .i32 0], .bool true]) ∧ w'.heap[c]? = some (.cells (chC 4) 173 (0, 0)) ∧ w.heap.size ≤ c ∧ Ext w w' := by
  have hz := zero_format
  have hfo := Lib.hid (formats_any (w.alloc (.cells #[.int .i64 0, .slice none 0 0, .int .i32 0, .int .i32 0, .int .i32 0, .int .i32 0] 159)))
  go_enter Try.func85, Try.ntmps85
  go_wp2_with (first | (go_at_call 114; refine hfo.out.mono ?_; rintro e w1 ⟨b, c, rfl, hb, hc, hcw, hx⟩; have hblk := hx.heap (heap_alloc_new _ _); have hch := Lib.hid (hc 4 (by decide) (by decide)); have hcn := hcw 4; have k0 : w1.cell? ⟨b, 24, none⟩ = some (.int .i64 2) := cell_of_heap hb rfl; have k1 : w1.cell? ⟨b, 25, none⟩ = some (.slice (some ⟨c 4, 0, none⟩) 4 4) := cell_of_heap hb rfl; have k2 : w1.cell? ⟨b, 26, none⟩ = some (.int .i32 0) := cell_of_heap hb rfl; have k3 : w1.cell? ⟨b, 27, none⟩ = some (.int .i32 0) := cell_of_heap hb rfl; have k4 : w1.cell? ⟨b, 28, none⟩ = some (.int .i32 0) := cell_of_heap hb rfl; have k5 : w1.cell? ⟨b, 29, none⟩ = some (.int .i32 0) := cell_of_heap hb rfl; clear hb hc hcw) | (refine wpList_store_whole rfl 159 _ _ rfl w.heap.size #[.int .i64 2, .slice (some ⟨c 4, 0, none⟩) 4 4, .int .i32 0, .int .i32 0, .int .i32 0, .int .i32 0] rfl rfl _ 159 hblk rfl info_format (by simp [Value.oneCell']) ?_; intro w2 hw2 hc2))
  have hload := run_loadVar_whole (P := Try.prog) 159 _ hw2 Try.underlying159 rfl info_format
  refine bodyPost_ret (results_cell2 rfl _ _ _ _ rfl hload) rfl ?_
  rw [World.size_alloc] at hcn
  exact ⟨c 4, rfl, hc2.heap hch.out (by simp; omega), by omega, ((((Ext.refl w).alloc _).trans hx)).chgTrans hc2 (by simp)⟩

set_option maxHeartbeats 1000000 in
theorem find_5 (w : World) : Calls Try.prog 85 #[.int .i64 5] w fun e w' => ∃ c, e = .returned (.tuple #[.agg #[.int .i64 1, .slice (some ⟨c, 0, none⟩) 1 1, .int .i32 0, .int .i32 0, .int .i32 0, .int .i32 65536], .bool true]) ∧ w'.heap[c]? = some (.cells (chC 5) 173 (0, 0)) ∧ w.heap.size ≤ c ∧ Ext w w' := by
  have hz := zero_format
  have hfo := Lib.hid (formats_any (w.alloc (.cells #[.int .i64 0, .slice none 0 0, .int .i32 0, .int .i32 0, .int .i32 0, .int .i32 0] 159)))
  go_enter Try.func85, Try.ntmps85
  go_wp2_with (first | (go_at_call 114; refine hfo.out.mono ?_; rintro e w1 ⟨b, c, rfl, hb, hc, hcw, hx⟩; have hblk := hx.heap (heap_alloc_new _ _); have hch := Lib.hid (hc 5 (by decide) (by decide)); have hcn := hcw 5; have k0 : w1.cell? ⟨b, 30, none⟩ = some (.int .i64 1) := cell_of_heap hb rfl; have k1 : w1.cell? ⟨b, 31, none⟩ = some (.slice (some ⟨c 5, 0, none⟩) 1 1) := cell_of_heap hb rfl; have k2 : w1.cell? ⟨b, 32, none⟩ = some (.int .i32 0) := cell_of_heap hb rfl; have k3 : w1.cell? ⟨b, 33, none⟩ = some (.int .i32 0) := cell_of_heap hb rfl; have k4 : w1.cell? ⟨b, 34, none⟩ = some (.int .i32 0) := cell_of_heap hb rfl; have k5 : w1.cell? ⟨b, 35, none⟩ = some (.int .i32 65536) := cell_of_heap hb rfl; clear hb hc hcw) | (refine wpList_store_whole rfl 159 _ _ rfl w.heap.size #[.int .i64 1, .slice (some ⟨c 5, 0, none⟩) 1 1, .int .i32 0, .int .i32 0, .int .i32 0, .int .i32 65536] rfl rfl _ 159 hblk rfl info_format (by simp [Value.oneCell']) ?_; intro w2 hw2 hc2))
  have hload := run_loadVar_whole (P := Try.prog) 159 _ hw2 Try.underlying159 rfl info_format
  refine bodyPost_ret (results_cell2 rfl _ _ _ _ rfl hload) rfl ?_
  rw [World.size_alloc] at hcn
  exact ⟨c 5, rfl, hc2.heap hch.out (by simp; omega), by omega, ((((Ext.refl w).alloc _).trans hx)).chgTrans hc2 (by simp)⟩

set_option maxHeartbeats 1000000 in
theorem find_6 (w : World) : Calls Try.prog 85 #[.int .i64 6] w fun e w' => ∃ c, e = .returned (.tuple #[.agg #[.int .i64 1, .slice (some ⟨c, 0, none⟩) 1 1, .int .i32 0, .int .i32 0, .int .i32 0, .int .i32 0], .bool true]) ∧ w'.heap[c]? = some (.cells (chC 6) 173 (0, 0)) ∧ w.heap.size ≤ c ∧ Ext w w' := by
  have hz := zero_format
  have hfo := Lib.hid (formats_any (w.alloc (.cells #[.int .i64 0, .slice none 0 0, .int .i32 0, .int .i32 0, .int .i32 0, .int .i32 0] 159)))
  go_enter Try.func85, Try.ntmps85
  go_wp2_with (first | (go_at_call 114; refine hfo.out.mono ?_; rintro e w1 ⟨b, c, rfl, hb, hc, hcw, hx⟩; have hblk := hx.heap (heap_alloc_new _ _); have hch := Lib.hid (hc 6 (by decide) (by decide)); have hcn := hcw 6; have k0 : w1.cell? ⟨b, 36, none⟩ = some (.int .i64 1) := cell_of_heap hb rfl; have k1 : w1.cell? ⟨b, 37, none⟩ = some (.slice (some ⟨c 6, 0, none⟩) 1 1) := cell_of_heap hb rfl; have k2 : w1.cell? ⟨b, 38, none⟩ = some (.int .i32 0) := cell_of_heap hb rfl; have k3 : w1.cell? ⟨b, 39, none⟩ = some (.int .i32 0) := cell_of_heap hb rfl; have k4 : w1.cell? ⟨b, 40, none⟩ = some (.int .i32 0) := cell_of_heap hb rfl; have k5 : w1.cell? ⟨b, 41, none⟩ = some (.int .i32 0) := cell_of_heap hb rfl; clear hb hc hcw) | (refine wpList_store_whole rfl 159 _ _ rfl w.heap.size #[.int .i64 1, .slice (some ⟨c 6, 0, none⟩) 1 1, .int .i32 0, .int .i32 0, .int .i32 0, .int .i32 0] rfl rfl _ 159 hblk rfl info_format (by simp [Value.oneCell']) ?_; intro w2 hw2 hc2))
  have hload := run_loadVar_whole (P := Try.prog) 159 _ hw2 Try.underlying159 rfl info_format
  refine bodyPost_ret (results_cell2 rfl _ _ _ _ rfl hload) rfl ?_
  rw [World.size_alloc] at hcn
  exact ⟨c 6, rfl, hc2.heap hch.out (by simp; omega), by omega, ((((Ext.refl w).alloc _).trans hx)).chgTrans hc2 (by simp)⟩

set_option maxHeartbeats 1000000 in
theorem find_7 (w : World) : Calls Try.prog 85 #[.int .i64 7] w fun e w' => ∃ c, e = .returned (.tuple #[.agg #[.int .i64 2, .slice (some ⟨c, 0, none⟩) 2 2, .int .i32 0, .int .i32 0, .int .i32 0, .int .i32 0], .bool true]) ∧ w'.heap[c]? = some (.cells (chC 7) 173 (0, 0)) ∧ w.heap.size ≤ c ∧ Ext w w' := by
  have hz := zero_format
  have hfo := Lib.hid (formats_any (w.alloc (.cells #[.int .i64 0, .slice none 0 0, .int .i32 0, .int .i32 0, .int .i32 0, .int .i32 0] 159)))
  go_enter Try.func85, Try.ntmps85
  go_wp2_with (first | (go_at_call 114; refine hfo.out.mono ?_; rintro e w1 ⟨b, c, rfl, hb, hc, hcw, hx⟩; have hblk := hx.heap (heap_alloc_new _ _); have hch := Lib.hid (hc 7 (by decide) (by decide)); have hcn := hcw 7; have k0 : w1.cell? ⟨b, 42, none⟩ = some (.int .i64 2) := cell_of_heap hb rfl; have k1 : w1.cell? ⟨b, 43, none⟩ = some (.slice (some ⟨c 7, 0, none⟩) 2 2) := cell_of_heap hb rfl; have k2 : w1.cell? ⟨b, 44, none⟩ = some (.int .i32 0) := cell_of_heap hb rfl; have k3 : w1.cell? ⟨b, 45, none⟩ = some (.int .i32 0) := cell_of_heap hb rfl; have k4 : w1.cell? ⟨b, 46, none⟩ = some (.int .i32 0) := cell_of_heap hb rfl; have k5 : w1.cell? ⟨b, 47, none⟩ = some (.int .i32 0) := cell_of_heap hb rfl; clear hb hc hcw) | (refine wpList_store_whole rfl 159 _ _ rfl w.heap.size #[.int .i64 2, .slice (some ⟨c 7, 0, none⟩) 2 2, .int .i32 0, .int .i32 0, .int .i32 0, .int .i32 0] rfl rfl _ 159 hblk rfl info_format (by simp [Value.oneCell']) ?_; intro w2 hw2 hc2))
  have hload := run_loadVar_whole (P := Try.prog) 159 _ hw2 Try.underlying159 rfl info_format
  refine bodyPost_ret (results_cell2 rfl _ _ _ _ rfl hload) rfl ?_
  rw [World.size_alloc] at hcn
  exact ⟨c 7, rfl, hc2.heap hch.out (by simp; omega), by omega, ((((Ext.refl w).alloc _).trans hx)).chgTrans hc2 (by simp)⟩

set_option maxHeartbeats 1000000 in
theorem find_bad (n : Int) (w : World) (h : n < 1 ∨ 8 ≤ n) : Calls Try.prog 85 #[.int .i64 n] w fun e w' => e = .returned (.tuple #[.agg #[.int .i64 0, .slice none 0 0, .int .i32 0, .int .i32 0, .int .i32 0, .int .i32 0], .bool false]) ∧ Ext w w' := by
  have hz := zero_format
  have hfo := Lib.hid (formats_any (w.alloc (.cells #[.int .i64 0, .slice none 0 0, .int .i32 0, .int .i32 0, .int .i32 0, .int .i32 0] 159)))
  by_cases h1 : n < 1
  all_goals (try have h2 : 8 ≤ n := by omega)
  all_goals clear h
  all_goals (
    go_enter Try.func85, Try.ntmps85
    go_wp2_with (first | (go_at_call 114; refine hfo.out.mono ?_; rintro e w1 ⟨b, c, rfl, hb, hc, hcw, hx⟩; have hblk := hx.heap (heap_alloc_new _ _); clear hb hc hcw) | (refine wpList_store_whole rfl 159 _ _ rfl w.heap.size #[.int .i64 0, .slice none 0 0, .int .i32 0, .int .i32 0, .int .i32 0, .int .i32 0] rfl rfl _ 159 hblk rfl info_format (by simp [Value.oneCell']) ?_; intro w2 hw2 hc2))
    have hload := run_loadVar_whole (P := Try.prog) 159 _ hw2 Try.underlying159 rfl info_format
    refine bodyPost_ret (results_cell2 rfl _ _ _ _ rfl hload) rfl ?_
    exact ⟨rfl, ((((Ext.refl w).alloc _).trans hx)).chgTrans hc2 (by simp)⟩)

theorem grey_any (n : Int) (w : World) : Calls Try.prog 117 #[.int .i64 n] w fun e w' => e = .returned (.bool (n == 5 || n == 7)) ∧ w = w' := by
  go_enter Try.func117, Try.ntmps117
  go_wp2
  all_goals go_ret
  all_goals exact ⟨by simp_all, rfl⟩

/-- A pixel's bytes. -/
def szV (n : Int) : Int := if n = 1 then 4 else if n = 5 ∨ n = 6 then 1 else if 2 ≤ n ∧ n ≤ 7 then 2 else 0
theorem refSize_any (n : Int) (w : World) : Calls Try.prog 28 #[.int .i64 n] w fun e w' => e = .returned (.int .i64 (szV n)) ∧ w = w' := by
  have key : n = 1 ∨ n = 2 ∨ n = 3 ∨ n = 4 ∨ n = 5 ∨ n = 6 ∨ n = 7 ∨ (n < 1 ∨ 8 ≤ n) := by omega
  rcases key with rfl | rfl | rfl | rfl | rfl | rfl | rfl | hn
  iterate 7
    · go_enter Try.func28, Try.ntmps28
      go_wp2
      go_ret
      exact ⟨rfl, rfl⟩
  have h1 : (n == 1) = false := by simp; omega
  have h5 : (n == 5) = false := by simp; omega
  have h6 : (n == 6) = false := by simp; omega
  have hz := Lib.hid (show szV n = 0 by unfold szV; rw [if_neg (by omega), if_neg (by omega), if_neg (by omega)])
  by_cases h2 : n < 1
  · have h3 : ¬ 2 ≤ n := by omega
    clear hn
    go_enter Try.func28, Try.ntmps28
    go_wp2
    go_ret
    rw [hz.out]
    exact ⟨rfl, rfl⟩
  · have h3 : ¬ n ≤ 7 := by omega
    clear hn
    go_enter Try.func28, Try.ntmps28
    go_wp2
    go_ret
    rw [hz.out]
    exact ⟨rfl, rfl⟩

theorem Size_any (n : Int) (w : World) : Calls Try.prog 57 #[.int .i64 n] w fun e w' => e = .returned (.int .i64 (szV n)) ∧ Ext w w' := by
  have hz := zero_format
  have key : n = 1 ∨ n = 2 ∨ n = 3 ∨ n = 4 ∨ n = 5 ∨ n = 6 ∨ n = 7 ∨ (n < 1 ∨ 8 ≤ n) := by omega
  rcases key with rfl | rfl | rfl | rfl | rfl | rfl | rfl | hn
  · go_enter Try.func57, Try.ntmps57
    go_wp2_with (go_at_call 85; refine (find_1 _).mono ?_; rintro e w1 ⟨c, rfl, hc, hcw, hx⟩; clear hc hcw)
    go_ret
    exact ⟨rfl, by repeat first | exact hx | refine Ext.setCell ?_ hx.size _ | refine Ext.alloc ?_ _⟩
  · go_enter Try.func57, Try.ntmps57
    go_wp2_with (go_at_call 85; refine (find_2 _).mono ?_; rintro e w1 ⟨c, rfl, hc, hcw, hx⟩; clear hc hcw)
    go_ret
    exact ⟨rfl, by repeat first | exact hx | refine Ext.setCell ?_ hx.size _ | refine Ext.alloc ?_ _⟩
  · go_enter Try.func57, Try.ntmps57
    go_wp2_with (go_at_call 85; refine (find_3 _).mono ?_; rintro e w1 ⟨c, rfl, hc, hcw, hx⟩; clear hc hcw)
    go_ret
    exact ⟨rfl, by repeat first | exact hx | refine Ext.setCell ?_ hx.size _ | refine Ext.alloc ?_ _⟩
  · go_enter Try.func57, Try.ntmps57
    go_wp2_with (go_at_call 85; refine (find_4 _).mono ?_; rintro e w1 ⟨c, rfl, hc, hcw, hx⟩; clear hc hcw)
    go_ret
    exact ⟨rfl, by repeat first | exact hx | refine Ext.setCell ?_ hx.size _ | refine Ext.alloc ?_ _⟩
  · go_enter Try.func57, Try.ntmps57
    go_wp2_with (go_at_call 85; refine (find_5 _).mono ?_; rintro e w1 ⟨c, rfl, hc, hcw, hx⟩; clear hc hcw)
    go_ret
    exact ⟨rfl, by repeat first | exact hx | refine Ext.setCell ?_ hx.size _ | refine Ext.alloc ?_ _⟩
  · go_enter Try.func57, Try.ntmps57
    go_wp2_with (go_at_call 85; refine (find_6 _).mono ?_; rintro e w1 ⟨c, rfl, hc, hcw, hx⟩; clear hc hcw)
    go_ret
    exact ⟨rfl, by repeat first | exact hx | refine Ext.setCell ?_ hx.size _ | refine Ext.alloc ?_ _⟩
  · go_enter Try.func57, Try.ntmps57
    go_wp2_with (go_at_call 85; refine (find_7 _).mono ?_; rintro e w1 ⟨c, rfl, hc, hcw, hx⟩; clear hc hcw)
    go_ret
    exact ⟨rfl, by repeat first | exact hx | refine Ext.setCell ?_ hx.size _ | refine Ext.alloc ?_ _⟩
  · have hs := Lib.hid (show szV n = 0 by unfold szV; rw [if_neg (by omega), if_neg (by omega), if_neg (by omega)])
    have hf := Lib.hid (fun w => find_bad n w hn)
    go_enter Try.func57, Try.ntmps57
    go_wp2_with (go_at_call 85; refine (hf.out _).mono ?_; rintro e w1 ⟨rfl, hx⟩)
    go_ret
    rw [hs.out]
    exact ⟨rfl, by repeat first | exact hx | refine Ext.setCell ?_ hx.size _ | refine Ext.alloc ?_ _⟩
end Go.Proofs.Ytgdcdkajicgliaa
namespace Go.Proofs.Ytgdcdkajicgliaa
open Go.RowKit
set_option linter.unusedVariables false
set_option maxRecDepth 100000

/-- The number of bytes, the lowest first. -/
def leN : List Int → Int
  | [] => 0
  | b :: l => b + 256 * leN l
theorem leN_bound : ∀ (l : List Int), (∀ z ∈ l, 0 ≤ z ∧ z < 256) → 0 ≤ leN l ∧ leN l < 256 ^ l.length
  | [], _ => by simp [leN]
  | b :: l, h => by
    have h1 := leN_bound l fun z hz => h z (by simp [hz])
    have h2 := h b (by simp)
    simp only [leN, List.length_cons, Int.pow_succ]
    omega
theorem leN_snoc : ∀ (l : List Int) (b : Int), leN (l ++ [b]) = leN l + b * 256 ^ l.length
  | [], b => by simp [leN]
  | c :: l, b => by
    simp only [List.cons_append, leN, leN_snoc l b, List.length_cons, Int.pow_succ]
    rw [Int.mul_add, ← Int.add_assoc, ← Int.mul_assoc, Int.mul_comm 256 b, Int.mul_assoc, Int.mul_comm 256 (256 ^ l.length)]
theorem u8_of_wf {z : Int} (h : (Lit.int .u8 z).wf = true) : 0 ≤ z ∧ z < 256 := by
  simp [Lit.wf, IntKind.min, IntKind.max, IntKind.bits, IntKind.signed] at h
  omega
theorem take_snoc_getD (l : List Int) (k : Nat) (h : k < l.length) : l.take (k + 1) = l.take k ++ [l.getD k 0] := by
  rw [List.take_add_one, List.getElem?_eq_getElem h, List.getD_eq_getElem?_getD, List.getElem?_eq_getElem h]
  rfl

/-- A format's channels: where in a colour, how many bits, how far shifted. -/
def chL : Nat → List (Nat × Nat × Nat)
  | 1 => [(0, 8, 0), (1, 8, 8), (2, 8, 16), (3, 8, 24)]
  | 2 => [(0, 5, 11), (1, 6, 5), (2, 5, 0)]
  | 3 => [(0, 4, 12), (1, 4, 8), (2, 4, 4), (3, 4, 0)]
  | 4 => [(0, 5, 11), (1, 5, 6), (2, 5, 1), (3, 1, 0)]
  | 5 => [(0, 8, 0)]
  | 6 => [(3, 8, 0)]
  | 7 => [(0, 8, 0), (3, 8, 8)]
  | _ => []
def restL (n : Nat) : List Int := if n = 2 ∨ n = 5 then [0, 0, 0, 65536] else [0, 0, 0, 0]
def chCells (l : List (Nat × Nat × Nat)) : Array Value := (l.flatMap fun c => [Value.int .i64 (c.1 : Nat), .int .i64 (c.2.1 : Nat), .int .i64 (c.2.2 : Nat)]).toArray
theorem chCells_at (l : List (Nat × Nat × Nat)) : ∀ (m : Nat) (c : Nat × Nat × Nat), l[m]? = some c → (chCells l)[m * 3]? = some (.int .i64 (c.1 : Nat)) ∧ (chCells l)[m * 3 + 1]? = some (.int .i64 (c.2.1 : Nat)) ∧ (chCells l)[m * 3 + 2]? = some (.int .i64 (c.2.2 : Nat)) := by
  unfold chCells
  simp only [List.getElem?_toArray]
  induction l with
  | nil => intro m c h; simp at h
  | cons x l ih =>
    intro m c h
    cases m with
    | zero =>
      simp only [List.getElem?_cons_zero, Option.some.injEq] at h
      subst h
      simp
    | succ m =>
      have := ih m c (by simpa using h)
      rw [show (m + 1) * 3 = m * 3 + 3 by omega]
      simpa [List.flatMap_cons, Nat.add_assoc] using this
/-- What holds of every format's channels. -/
theorem ch_ok (n : Nat) : ∀ c ∈ chL n, c.1 < 4 ∧ 1 ≤ c.2.1 ∧ c.2.1 ≤ 8 ∧ c.2.2 ≤ 24 := by
  have : n = 1 ∨ n = 2 ∨ n = 3 ∨ n = 4 ∨ n = 5 ∨ n = 6 ∨ n = 7 ∨ chL n = [] := by
    unfold chL
    split <;> simp
  rcases this with rfl | rfl | rfl | rfl | rfl | rfl | rfl | h
  iterate 7
    · decide
  rw [h]
  intro c hc
  cases hc
theorem rest_eq (n : Nat) : restL n = [(restL n).getD 0 0, (restL n).getD 1 0, (restL n).getD 2 0, (restL n).getD 3 0] := by
  unfold restL
  split <;> rfl
/-- What Unpack lays. -/
def outU (X : Int) (l : List (Nat × Nat × Nat)) (o : List Int) : List Int := l.foldl (fun o c => o.set c.1 (numV (X / 2 ^ c.2.2 % 2 ^ c.2.1) c.2.1)) o
/-- The colour of bytes. -/
def unpV (n : Nat) (X : Int) : List Int := if n = 5 ∨ n = 7 then [(outU X (chL n) (restL n)).getD 0 0, (outU X (chL n) (restL n)).getD 0 0, (outU X (chL n) (restL n)).getD 0 0, (outU X (chL n) (restL n)).getD 3 0] else outU X (chL n) (restL n)
def vecC (o : List Int) : Array Value := (o.map (Value.int .i32)).toArray
theorem ch_len (n : Nat) : (chL n).length ≤ 4 := by
  unfold chL
  split <;> decide
theorem find_any (n : Nat) (w : World) (h1 : 1 ≤ n) (h7 : n ≤ 7) : Calls Try.prog 85 #[.int .i64 (n : Int)] w fun e w' => ∃ c, e = .returned (.tuple #[.agg #[.int .i64 (szV n), .slice (some ⟨c, 0, none⟩) (chL n).length (chL n).length, .int .i32 ((restL n).getD 0 0), .int .i32 ((restL n).getD 1 0), .int .i32 ((restL n).getD 2 0), .int .i32 ((restL n).getD 3 0)], .bool true]) ∧ w'.heap[c]? = some (.cells (chCells (chL n)) 173 (0, 0)) ∧ w.heap.size ≤ c ∧ Ext w w' := by
  have : n = 1 ∨ n = 2 ∨ n = 3 ∨ n = 4 ∨ n = 5 ∨ n = 6 ∨ n = 7 := by omega
  rcases this with rfl | rfl | rfl | rfl | rfl | rfl | rfl
  · exact find_1 w
  · exact find_2 w
  · exact find_3 w
  · exact find_4 w
  · exact find_5 w
  · exact find_6 w
  · exact find_7 w

theorem and_mask (X b : Nat) (hX : X < 4294967296) (hb : b ≤ 16) : bits .and .u32 (X : Int) (2 ^ b - 1) = (X : Int) % 2 ^ b := by
  have hp : (2 : Nat) ^ b ≤ 65536 := by
    have := Nat.pow_le_pow_right (n := 2) (by decide) hb
    simpa using this
  have h0 : 0 < (2 : Nat) ^ b := Nat.pow_pos (by decide)
  have hm : ((2 : Int) ^ b - 1) = (((2 ^ b - 1 : Nat)) : Int) := by
    rw [Int.ofNat_sub h0]
    simp
  rw [hm, (bits_nat .u32 32 (by decide) wraps_u32 X (2 ^ b - 1) hX (by omega)).1, Nat.and_two_pow_sub_one_eq_mod]
  simp

theorem mask_core (X : Int) (s b : Nat) (h0 : 0 ≤ X) (h1 : X < 4294967296) (hb : b ≤ 16) :
    bits .and .u32 (X / 2 ^ s) (IntKind.u32.wrap (IntKind.u32.wrap (2 ^ b) - 1)) = X / 2 ^ s % 2 ^ b := by
  have hp : (0 : Int) < 2 ^ s := Int.pow_pos (by decide)
  have q0 : 0 ≤ X / 2 ^ s := Int.ediv_nonneg h0 (by omega)
  have q1 : X / 2 ^ s ≤ X := Int.ediv_le_self _ h0
  have p1 : (1 : Int) ≤ 2 ^ b := Int.pow_pos (by decide)
  have p2 : (2 : Int) ^ b ≤ 65536 := by
    have : (2 : Int) ^ b ≤ 2 ^ 16 := by exact_mod_cast Nat.pow_le_pow_right (by decide) hb
    simpa using this
  rw [wraps_u32 (2 ^ b) (by omega) (by omega), wraps_u32 (2 ^ b - 1) (by omega) (by omega)]
  obtain ⟨Y, hY⟩ := Int.eq_ofNat_of_zero_le q0
  rw [hY]
  exact and_mask Y b (by omega) hb
theorem info_vec : (Try.prog.info? 26).map (·.size) = some 4 := by kernel_rfl

set_option maxHeartbeats 1000000 in
set_option maxRecDepth 20000 in
theorem unpack_any (n : Nat) (v : Value) (zs : List Int) (w : World) (h1 : 1 ≤ n) (h7 : n ≤ 7) (h : Ints .u8 w v zs) (hl : (zs.length : Int) = szV n) : Calls Try.prog 91 #[.int .i64 (n : Int), v] w fun e w' => e = .returned (.tuple #[.agg (vecC (unpV n (leN zs))), .int .i64 0]) ∧ Ext w w' := by
  obtain ⟨hlen, a, cap, rfl, hn, hc, hz, hp⟩ := h.1
  have hfi := Lib.hid (fun w => find_any n w h1 h7)
  have hsz : zs.length ≤ 4 := by unfold szV at hl; omega
  rw [← hl] at hfi
  clear hl
  have hl4 := ch_len n
  have hr := rest_eq n
  generalize hL : (chL n).length = L at *
  generalize (restL n).getD 0 0 = r0 at *
  generalize (restL n).getD 1 0 = r1 at *
  generalize (restL n).getD 2 0 = r2 at *
  generalize (restL n).getD 3 0 = r3 at *
  have HL := Lib.hid hL
  have HR := Lib.hid hr
  clear hL hr
  have hzf := zero_format
  go_enter Try.func91, Try.ntmps91
  go_wp2_with (first | (go_at_call 85; refine (hfi.out _).mono ?_; rintro e w1 ⟨c, rfl, hch, hcw, hx⟩; have hres1 := hx.heap (heap_alloc_new _ _)))
  obtain ⟨w2, hw2e, hw2, hc2⟩ : ∃ w2, w1.alloc (.cells #[.int .i64 zs.length, .slice (some ⟨c, 0, none⟩) L L, .int .i32 r0, .int .i32 r1, .int .i32 r2, .int .i32 r3] 159) = w2 ∧ w2.heap[w1.heap.size]? = some (.cells #[.int .i64 zs.length, .slice (some ⟨c, 0, none⟩) L L, .int .i32 r0, .int .i32 r1, .int .i32 r2, .int .i32 r3] 159 (0, 0)) ∧ Ext w1 w2 := ⟨_, rfl, heap_alloc_new _ _, (Ext.refl _).alloc _⟩
  rw [hw2e]
  have hcw2 : w.heap.size + 1 ≤ c := by rw [World.size_alloc] at hcw; exact hcw
  have hw1 : w.heap.size + 1 ≤ w1.heap.size := by have := hx.size; rw [World.size_alloc] at this; exact this
  have hx1 := ((Ext.refl w).alloc _).trans hx
  have hx12 := hc2
  have hx2 := Lib.hid (hx1.trans hx12)
  have hch2 := Lib.hid (hx12.heap hch)
  have hres2 := Lib.hid (hx12.heap hres1)
  have hf1 : w2.cell? ⟨w1.heap.size, 1, none⟩ = some (.slice (some ⟨c, 0, none⟩) L L) := cell_of_heap hw2 rfl
  have hf2 : w2.cell? ⟨w1.heap.size, 2, none⟩ = some (.int .i32 r0) := cell_of_heap hw2 rfl
  have hf3 : w2.cell? ⟨w1.heap.size, 3, none⟩ = some (.int .i32 r1) := cell_of_heap hw2 rfl
  have hf4 : w2.cell? ⟨w1.heap.size, 4, none⟩ = some (.int .i32 r2) := cell_of_heap hw2 rfl
  have hf5 : w2.cell? ⟨w1.heap.size, 5, none⟩ = some (.int .i32 r3) := cell_of_heap hw2 rfl
  have hws := heap_lt hw2
  have hww := heap_lt hres1
  have hcs := heap_lt hch
  have hpos := h.pos
  have hwf := h.2
  clear hfi hx hcw h hlen hp hx1 hx12 hc2 hw2 hw2e hch hres1
  generalize w1.heap.size = fb at *
  go_loop [8, 32] (fun x i => ∃ m : Nat, m ≤ zs.length ∧ i = .int .i64 m ∧ x = .int .u32 (leN (zs.take m))) (fun _ i => zs.length - (intOf i).toNat)
  case atStart => exact ⟨0, Nat.zero_le _, rfl, rfl⟩
  case round =>
    obtain ⟨m, hm, rfl, rfl⟩ := hrel
    by_cases hlt : m < zs.length
    · obtain ⟨b, off, rfl, hb, hcell⟩ := hpos (by omega)
      have hk := hx2.out.cell (hcell m hlt)
      have hb1 : b < w2.heap.size := by have := hx2.out.size; omega
      have hml : (m : Int) < (zs.length : Int) := by omega
      have hw := u8_of_wf (hwf (zs.getD m 0) (by rw [List.getD_eq_getElem?_getD, List.getElem?_eq_getElem hlt]; exact List.getElem_mem hlt))
      have hbd := leN_bound (zs.take m) (fun z hz => u8_of_wf (hwf z (List.mem_of_mem_take hz)))
      rw [List.length_take, Nat.min_eq_left hm] at hbd
      have hst := Lib.hid (show leN (zs.take (m + 1)) = leN (zs.take m) + zs.getD m 0 * 256 ^ m by rw [take_snoc_getD zs m hlt, leN_snoc, List.length_take, Nat.min_eq_left hm])
      have HBD := Lib.hid hbd
      have HW := Lib.hid hw
      generalize leN (zs.take m) = X at *
      generalize zs.getD m 0 = y at *
      clear hbd hcell hpos hwf
      go_wp2
      go_round
      case rel => exact ⟨m + 1, by omega, by go_num, by rw [hst.out, ← or_byte_u32 _ y m (by omega) HBD.out.1 HBD.out.2 HW.out.1 HW.out.2, IntKind.wrap_u32]⟩
      case measure => simp [intOf]; omega
    · obtain rfl : m = zs.length := by omega
      rw [List.take_length]
      have HWF := Lib.hid hwf
      clear hpos hwf
      go_wp2_with fail
      obtain ⟨w3, hw3e, hw3, hx3⟩ : ∃ w3, w2.alloc (.cells #[.int .i32 r0, .int .i32 r1, .int .i32 r2, .int .i32 r3] 26) = w3 ∧ w3.heap[w2.heap.size]? = some (.cells #[.int .i32 r0, .int .i32 r1, .int .i32 r2, .int .i32 r3] 26 (0, 0)) ∧ Ext w2 w3 := ⟨_, rfl, heap_alloc_new _ _, (Ext.refl _).alloc _⟩
      rw [hw3e]
      have hx13 := Lib.hid (hx2.out.trans hx3)
      have hch3 := Lib.hid (hx3.heap hch2.out)
      have hres3 := Lib.hid (hx3.heap hres2.out)
      have hob := heap_lt hw3
      have hobs : fb < w2.heap.size := hws
      have hX := leN_bound zs (fun z hz => u8_of_wf (HWF.out z hz))
      have hX2 : leN zs < 4294967296 := by
        have : (256 : Int) ^ zs.length ≤ 256 ^ 4 := pow256_le _ _ hsz
        omega
      have hX0 := hX.1
      generalize hXe : leN zs = X at *
      have HXE := Lib.hid hXe
      clear hXe
      generalize w2.heap.size = ob at *
      clear hw3e hx3 hch2 hres2 hf1 hf2 hf3 hf4 hf5 hx2 hX hws
      go_loopw [50] (fun i wr => ∃ (m : Nat) (o : List Int), m ≤ L ∧ i = .int .i64 m ∧ o = outU X ((chL n).take m) (restL n) ∧ o.length = 4 ∧ wr.heap[ob]? = some (.cells (o.map (Value.int .i32)).toArray 26 (0, 0)) ∧ Chg [ob] w3 wr) (fun i _ => L - (intOf i).toNat)
      case atStart => exact ⟨0, [r0, r1, r2, r3], Nat.zero_le _, rfl, HR.out.symm, rfl, hw3, Chg.refl _ _⟩
      case round =>
        obtain ⟨m, o, hm, rfl, ho, ho4, hwo, hx⟩ := hrel
        by_cases hlt : m < L
        · obtain ⟨ch, hch⟩ : ∃ ch, (chL n)[m]? = some ch := ⟨_, List.getElem?_eq_getElem (by rw [HL.out]; exact hlt)⟩
          obtain ⟨a, b, s⟩ := ch
          have hmem := List.mem_of_getElem? hch
          obtain ⟨ha4, hb1, hb8, hs24⟩ := ch_ok n _ hmem
          simp only at ha4 hb1 hb8 hs24
          have hstep := Lib.hid (show outU X ((chL n).take (m + 1)) (restL n) = o.set a (numV (X / 2 ^ s % 2 ^ b) b) by rw [List.take_add_one, hch, ho]; unfold outU; rw [Option.toList_some, List.foldl_append]; rfl)
          obtain ⟨k0, k1, k2⟩ := chCells_at _ m _ hch
          have hcr := hx.heap hch3.out (by simp; omega)
          have c0 := cell_of_heap hcr k0
          have c1 := cell_of_heap hcr k1
          have c2 := cell_of_heap hcr k2
          simp only at c0 c1 c2
          have hcs2 : c < wr.heap.size := heap_lt hcr
          have hml : (m : Int) < (L : Int) := by omega
          have hwos := heap_lt hwo
          have HWO := Lib.hid hwo
          have HXX := Lib.hid hx
          have HO4 := Lib.hid ho4
          clear hcr k0 k1 k2 hmem hch ho ho4 hwo hx hlt
          go_wp2_with fail
          obtain ⟨w5, hw5e, hw5, hx5⟩ : ∃ w5, wr.alloc (.cells #[.int .i64 (a : Int), .int .i64 (b : Int), .int .i64 (s : Int)] 173) = w5 ∧ w5.heap[wr.heap.size]? = some (.cells #[.int .i64 (a : Int), .int .i64 (b : Int), .int .i64 (s : Int)] 173 (0, 0)) ∧ Ext wr w5 := ⟨_, rfl, heap_alloc_new _ _, (Ext.refl _).alloc _⟩
          rw [hw5e]
          have e0 : w5.cell? ⟨wr.heap.size, 0, none⟩ = some (.int .i64 (a : Int)) := cell_of_heap hw5 rfl
          have e1 : w5.cell? ⟨wr.heap.size, 1, none⟩ = some (.int .i64 (b : Int)) := cell_of_heap hw5 rfl
          have e2 : w5.cell? ⟨wr.heap.size, 2, none⟩ = some (.int .i64 (s : Int)) := cell_of_heap hw5 rfl
          have hwo5 := hx5.heap HWO.out
          have e3 : w5.cell? ⟨ob, a, none⟩ = some (.int .i32 (o.getD a 0)) := cell_of_heap hwo5 (by have := HO4.out; rw [List.getElem?_toArray, List.getElem?_map, List.getElem?_eq_getElem (by omega), List.getD_eq_getElem?_getD, List.getElem?_eq_getElem (by omega)]; rfl)
          have e4 : w5.frozen? ⟨ob, a, none⟩ = false := free_of_heap hwo5
          have HX5 := Lib.hid hx5
          have HWO5 := Lib.hid hwo5
          have hqo : ob < wr.heap.size := hwos
          generalize wr.heap.size = q at *
          have ha0 : (0 : Int) ≤ (a : Int) := by omega
          have ha1 : (a : Int) < 4 := by omega
          have hb0 : (0 : Int) ≤ (b : Int) := by omega
          have hs0 : (0 : Int) ≤ (s : Int) := by omega
          have hqo2 : q ≠ ob := by omega
          have hqo3 : ob ≠ q := by omega
          have hqo4 : (ob == q) = false := by simpa using hqo3
          have hqo5 : (q == ob) = false := by simpa using hqo2
          have HE := Lib.hid (mask_core X s b hX0 hX2 (by omega))
          have hb16 : b ≤ 16 := by omega
          have hn0 : 0 ≤ X / 2 ^ s % 2 ^ b := Int.emod_nonneg _ (by have : (0 : Int) < 2 ^ b := Int.pow_pos (by decide); omega)
          have HN1 := Lib.hid (show X / 2 ^ s % 2 ^ b < 2 ^ b from Int.emod_lt_of_pos _ (Int.pow_pos (by decide)))
          clear hw5e hw5 hx5 hwo5 c0 c1 c2 hcs2
          go_region_held3 (fun w' => w'.cell? ⟨q, 0, none⟩ = some (.int .i64 (a : Int)) ∧ w'.cell? ⟨q, 1, none⟩ = some (.int .i64 (b : Int)) ∧ w'.cell? ⟨q, 2, none⟩ = some (.int .i64 (s : Int))) (go_keep) (first | (go_at_call 116; rw [HE.out]; refine (number_any _ b _ hn0 HN1.out hb1 hb16).mono ?_; rintro e w' ⟨rfl, rfl⟩))
          go_wp2_with fail
          go_roundw
          case rel => exact ⟨m + 1, o.set a (numV (X / 2 ^ s % 2 ^ b) b), by omega, by go_num, hstep.out.symm, by rw [List.length_set]; exact HO4.out, ((Ext.refl _).drew).heap ((heap_set HWO5.out).trans (by simp [List.map_set])), ((HXX.out.ext2 HX5.out).setCell (by simp) _).ext2 ((Ext.refl _).drew)⟩
          case measure => simp [intOf]; omega
        · obtain rfl : m = L := by omega
          have ho' := Lib.hid (show o = outU X (chL n) (restL n) by rw [ho, ← HL.out, List.take_length])
          have hresR := hx.heap hres3.out (by simp; omega)
          have hxw := Lib.hid (hx13.out.chgTrans hx (by simp; omega))
          obtain ⟨o0, o1, o2, o3, rfl⟩ : ∃ o0 o1 o2 o3, o = [o0, o1, o2, o3] := by
            match o, ho4 with
            | [o0, o1, o2, o3], _ => exact ⟨o0, o1, o2, o3, rfl⟩
          have d0 : wr.cell? ⟨ob, 0, none⟩ = some (.int .i32 o0) := cell_of_heap hwo rfl
          have d1 : wr.cell? ⟨ob, 1, none⟩ = some (.int .i32 o1) := cell_of_heap hwo rfl
          have d2 : wr.cell? ⟨ob, 2, none⟩ = some (.int .i32 o2) := cell_of_heap hwo rfl
          have d3 : wr.cell? ⟨ob, 3, none⟩ = some (.int .i32 o3) := cell_of_heap hwo rfl
          have z1 : wr.frozen? ⟨ob, 1, none⟩ = false := free_of_heap hwo
          have z2 : wr.frozen? ⟨ob, 2, none⟩ = false := free_of_heap hwo
          have hwos := heap_lt hwo
          have hlt2 : w.heap.size < wr.heap.size := by omega
          clear ho hwo hx ho4 hlt hm hch3 hres3 hx13
          by_cases hn57 : n = 5 ∨ n = 7
          · have hg : ((n : Int) == 5 || (n : Int) == 7) = true := by rcases hn57 with rfl | rfl <;> rfl
            have HV := Lib.hid (show unpV n (leN zs) = [o0, o0, o0, o3] by rw [HXE.out]; unfold unpV; rw [if_pos hn57, ← ho'.out]; rfl)
            have hch6 := ((Chg.refl [ob] wr).setCell (p := ⟨ob, 1, none⟩) (by simp) (.int .i32 o0)).setCell (p := ⟨ob, 2, none⟩) (by simp) (.int .i32 o0)
            have hresG := hch6.heap hresR (by simp; omega)
            have hxw6 := Lib.hid (hxw.out.chgTrans hch6 (by simp; omega))
            clear hch6 hresR hn57
            go_wp2_with (first | (go_at_call 117; refine (grey_any _ _).mono ?_; rintro e w6 ⟨rfl, rfl⟩; rw [hg]) | (refine wpList_store_whole rfl 26 _ _ rfl w.heap.size #[.int .i32 o0, .int .i32 o0, .int .i32 o0, .int .i32 o3] rfl rfl #[.int .i32 0, .int .i32 0, .int .i32 0, .int .i32 0] 26 hresG rfl info_vec (by simp [Value.oneCell']) ?_; intro w7 hw7 hc7))
            have hload := run_loadVar_whole (P := Try.prog) 26 _ hw7 Try.underlying26 rfl info_vec
            refine bodyPost_ret (results_cell2 rfl _ _ _ _ rfl hload) rfl ?_
            rw [HV.out]
            exact ⟨rfl, hxw6.out.chgTrans hc7 (by simp)⟩
          · have hg : ((n : Int) == 5 || (n : Int) == 7) = false := by simp; omega
            have HV := Lib.hid (show unpV n (leN zs) = [o0, o1, o2, o3] by rw [HXE.out]; unfold unpV; rw [if_neg hn57, ← ho'.out])
            have hresG := hresR
            clear hresR hn57
            go_wp2_with (first | (go_at_call 117; refine (grey_any _ _).mono ?_; rintro e w6 ⟨rfl, rfl⟩; rw [hg]) | (refine wpList_store_whole rfl 26 _ _ rfl w.heap.size #[.int .i32 o0, .int .i32 o1, .int .i32 o2, .int .i32 o3] rfl rfl #[.int .i32 0, .int .i32 0, .int .i32 0, .int .i32 0] 26 hresG rfl info_vec (by simp [Value.oneCell']) ?_; intro w7 hw7 hc7))
            have hload := run_loadVar_whole (P := Try.prog) 26 _ hw7 Try.underlying26 rfl info_vec
            refine bodyPost_ret (results_cell2 rfl _ _ _ _ rfl hload) rfl ?_
            rw [HV.out]
            exact ⟨rfl, hxw.out.chgTrans hc7 (by simp)⟩
end Go.Proofs.Ytgdcdkajicgliaa
namespace Go.Proofs.Ytgdcdkajicgliaa
open Go.RowKit
set_option linter.unusedVariables false
set_option maxRecDepth 100000

set_option maxHeartbeats 1000000 in
theorem unpack_bad (n : Int) (v : Value) (zs : List Int) (w : World) (hn : n < 1 ∨ 8 ≤ n) (h : Ints .u8 w v zs) : Calls Try.prog 91 #[.int .i64 n, v] w fun e w' => e = .returned (.tuple #[.agg #[.int .i32 0, .int .i32 0, .int .i32 0, .int .i32 0], .int .i64 2]) ∧ Ext w w' := by
  have hzf := zero_format
  have hfi := Lib.hid (fun w => find_bad n w hn)
  clear hn
  go_enter Try.func91, Try.ntmps91
  go_wp2_with (first | (go_at_call 85; refine (hfi.out _).mono ?_; rintro e w1 ⟨rfl, hx⟩; have hres1 := hx.heap (heap_alloc_new _ _); have hres2 := ((Ext.refl w1).alloc (.cells #[.int .i64 0, .slice none 0 0, .int .i32 0, .int .i32 0, .int .i32 0, .int .i32 0] 159)).heap hres1) | (refine wpList_store_whole rfl 26 _ _ rfl w.heap.size #[.int .i32 0, .int .i32 0, .int .i32 0, .int .i32 0] rfl rfl #[.int .i32 0, .int .i32 0, .int .i32 0, .int .i32 0] 26 hres2 rfl info_vec (by simp [Value.oneCell']) ?_; intro w7 hw7 hc7))
  have hload := run_loadVar_whole (P := Try.prog) 26 _ hw7 Try.underlying26 rfl info_vec
  refine bodyPost_ret (results_cell2 rfl _ _ _ _ rfl hload) rfl ?_
  exact ⟨rfl, (((Ext.refl w).alloc _).trans (hx.alloc _)).chgTrans hc7 (by simp)⟩

set_option maxHeartbeats 1000000 in
theorem unpack_short (n : Nat) (v : Value) (zs : List Int) (w : World) (h1 : 1 ≤ n) (h7 : n ≤ 7) (h : Ints .u8 w v zs) (hl : (zs.length : Int) ≠ szV n) : Calls Try.prog 91 #[.int .i64 (n : Int), v] w fun e w' => e = .returned (.tuple #[.agg #[.int .i32 0, .int .i32 0, .int .i32 0, .int .i32 0], .int .i64 7]) ∧ Ext w w' := by
  obtain ⟨hlen, a, cap, rfl, hn, hc, hz, hp⟩ := h.1
  have hfi := Lib.hid (fun w => find_any n w h1 h7)
  have hzf := zero_format
  have hl' : ((zs.length : Int) != szV n) = true := by simpa using hl
  generalize szV (n : Int) = S at *
  generalize (chL n).length = L at *
  generalize (restL n).getD 0 0 = r0 at *
  generalize (restL n).getD 1 0 = r1 at *
  generalize (restL n).getD 2 0 = r2 at *
  generalize (restL n).getD 3 0 = r3 at *
  clear h hlen hp hl
  go_enter Try.func91, Try.ntmps91
  go_wp2_with (first | (go_at_call 85; refine (hfi.out _).mono ?_; rintro e w1 ⟨c, rfl, hch, hcw, hx⟩; have hres1 := hx.heap (heap_alloc_new _ _); have hres2 := ((Ext.refl w1).alloc (.cells #[.int .i64 S, .slice (some ⟨c, 0, none⟩) L L, .int .i32 r0, .int .i32 r1, .int .i32 r2, .int .i32 r3] 159)).heap hres1; clear hch hcw) | (refine wpList_store_whole rfl 26 _ _ rfl w.heap.size #[.int .i32 0, .int .i32 0, .int .i32 0, .int .i32 0] rfl rfl #[.int .i32 0, .int .i32 0, .int .i32 0, .int .i32 0] 26 hres2 rfl info_vec (by simp [Value.oneCell']) ?_; intro w7 hw7 hc7))
  have hload := run_loadVar_whole (P := Try.prog) 26 _ hw7 Try.underlying26 rfl info_vec
  refine bodyPost_ret (results_cell2 rfl _ _ _ _ rfl hload) rfl ?_
  exact ⟨rfl, (((Ext.refl w).alloc _).trans (hx.alloc _)).chgTrans hc7 (by simp)⟩

theorem leN_drop (l : List Int) (m : Nat) (h : m < l.length) : leN (l.drop m) = l.getD m 0 + 256 * leN (l.drop (m + 1)) := by
  rw [List.drop_eq_getElem_cons h, leN, List.getD_eq_getElem?_getD, List.getElem?_eq_getElem h]; rfl

set_option maxHeartbeats 1000000 in
/-- The reference's Number. -/
theorem refnumber_any (v : Value) (l : List Int) (w : World) (h : Ints .u8 w v l) (hl : l.length ≤ 4) :
    Calls Try.prog 130 #[v] w fun e w' => e = .returned (.int .u64 (leN l)) ∧ w = w' := by
  obtain ⟨a1, k1, rfl⟩ : ∃ a cap, v = .slice a l.length cap := by obtain ⟨⟨_, a, cap, rfl, _⟩, _⟩ := h; exact ⟨a, cap, rfl⟩
  go_enter Try.func130, Try.ntmps130
  go_wp2
  go_loop [3, 4] (fun x i => ∃ j : Nat, j ≤ l.length ∧ i = .int .i64 ((j : Int) - 1) ∧ x = .int .u64 (leN (l.drop j))) (fun _ i => (intOf i + 1).toNat)
  case atStart => exact ⟨l.length, Nat.le_refl _, rfl, by simp [leN]⟩
  case round =>
    obtain ⟨j, hj, rfl, rfl⟩ := hrel
    rcases j with _ | m
    · go_wp2
      go_ret
      exact ⟨rfl, rfl⟩
    · have e1 : ((m + 1 : Nat) : Int) - 1 = (m : Int) := by omega
      rw [e1]
      have hlt : m < l.length := by omega
      obtain ⟨b, off, rfl, hbl, hcell⟩ := h.pos (by omega)
      have hc := hcell m hlt
      have hw := u8_of_wf (h.2 (l.getD m 0) (by rw [List.getD_eq_getElem?_getD, List.getElem?_eq_getElem hlt]; exact List.getElem_mem hlt))
      have hst := Lib.hid (leN_drop l m hlt)
      have hbd := leN_bound (l.drop (m + 1)) fun z hz => u8_of_wf (h.2 z (List.mem_of_mem_drop hz))
      have hbd2 : leN (l.drop (m + 1)) < 16777216 := by
        have := pow256_le (l.drop (m + 1)).length 3 (by simp; omega)
        omega
      have hbd1 := hbd.1
      clear hbd e1 hcell
      generalize leN (l.drop (m + 1)) = y at *
      generalize l.getD m 0 = c at *
      obtain ⟨hw0, hw1⟩ := hw
      go_wp2
      go_round
      case rel => exact ⟨m, by omega, rfl, by rw [hst.out]; first | done | go_num⟩
      case measure => simp [intOf]


def widL (n : Nat) : List Nat := if n = 2 then [5, 6, 5, 0] else if n = 3 then [4, 4, 4, 4] else [5, 5, 5, 1]
def widC (n : Nat) : Array Value := ((widL n).map fun (x : Nat) => Value.int .i64 (x : Int)).toArray
theorem info_wid : (Try.prog.info? 180).map (·.size) = some 4 := by kernel_rfl
theorem widths_any (n : Nat) (w : World) : Calls Try.prog 104 #[.int .i64 (n : Int)] w fun e w' => e = .returned (.agg (widC n)) ∧ Ext w w' := by
  by_cases h2 : n = 2
  · subst h2
    have hload := run_loadVar_whole (P := Try.prog) 180 _ (heap_alloc_new w (.cells (widC 2) 180)) Try.underlying180 rfl info_wid
    go_enter Try.func104, Try.ntmps104
    go_wp2
    exact bodyPost_ret (results_cell1 rfl _ _ _ _ rfl hload) rfl ⟨rfl, (Ext.refl _).alloc _⟩
  · by_cases h3 : n = 3
    · subst h3
      have hload := run_loadVar_whole (P := Try.prog) 180 _ (heap_alloc_new w (.cells (widC 3) 180)) Try.underlying180 rfl info_wid
      go_enter Try.func104, Try.ntmps104
      go_wp2
      exact bodyPost_ret (results_cell1 rfl _ _ _ _ rfl hload) rfl ⟨rfl, (Ext.refl _).alloc _⟩
    · have hw : widC n = #[.int .i64 5, .int .i64 5, .int .i64 5, .int .i64 1] := by unfold widC widL; rw [if_neg h2, if_neg h3]; rfl
      have hl' := run_loadVar_whole (P := Try.prog) 180 _ (heap_alloc_new w (.cells #[.int .i64 5, .int .i64 5, .int .i64 5, .int .i64 1] 180)) Try.underlying180 rfl info_wid
      have h2' : ((n : Int) == 2) = false := by simp; omega
      have h3' : ((n : Int) == 3) = false := by simp; omega
      rw [hw]
      clear h2 h3 hw
      go_enter Try.func104, Try.ntmps104
      go_wp2
      exact bodyPost_ret (results_cell1 rfl _ _ _ _ rfl hl') rfl ⟨rfl, (Ext.refl _).alloc _⟩

theorem number_core (z : Int) (h : 0 ≤ z ∧ z < 256) : z < 2 ^ 8 := by
  have : (2 : Int) ^ 8 = 256 := by decide
  omega

set_option maxHeartbeats 4000000 in
set_option maxRecDepth 20000 in
theorem refunp5 (v : Value) (z : Int) (w : World) (h : Ints .u8 w v [z]) : Calls Try.prog 111 #[.int .i64 5, v] w fun e w' => e = .returned (.agg (vecC (unpV 5 (leN [z])))) ∧ Ext w w' := by
  obtain ⟨hlen, a, cap, rfl, hn, hc, hz, hp⟩ := h.1
  obtain ⟨b, off, rfl, hb, hcell⟩ := hp (by simp)
  have c0 : w.cell? ⟨b, off, none⟩ = some (.int .u8 z) := hcell 0 _ rfl
  have hz := u8_of_wf (h.2 z (by simp))
  have hz0 := hz.1
  have Hz := Lib.hid (number_core z hz)
  have HV := Lib.hid (show unpV 5 (leN [z]) = [numV z 8, numV z 8, numV z 8, 65536] by
    have e0 : (z + 256 * 0) / 2 ^ 0 % 2 ^ 8 = z := by omega
    simp only [unpV, outU, chL, restL, leN, List.foldl, e0]
    rfl)
  have HNz := Lib.hid (fun w => refNumber_any z 8 w hz0 Hz.out (by decide) (by decide))
  clear h hlen hp hcell
  rw [HV.out]
  go_enter Try.func111, Try.ntmps111
  go_wp2_with (first | (go_at_call_of 112 (Value.int IntKind.u32 z); refine (HNz.out _).mono ?_; rintro e w' ⟨rfl, rfl⟩))
  have hload := run_loadVar_whole (P := Try.prog) 26 _ (heap_alloc_new w (.cells (vecC [numV z 8, numV z 8, numV z 8, 65536]) 26)) Try.underlying26 rfl info_vec
  exact bodyPost_ret (results_cell1 rfl _ _ _ _ rfl hload) rfl ⟨rfl, (Ext.refl _).alloc _⟩

set_option maxHeartbeats 4000000 in
set_option maxRecDepth 20000 in
theorem refunp6 (v : Value) (z : Int) (w : World) (h : Ints .u8 w v [z]) : Calls Try.prog 111 #[.int .i64 6, v] w fun e w' => e = .returned (.agg (vecC (unpV 6 (leN [z])))) ∧ Ext w w' := by
  obtain ⟨hlen, a, cap, rfl, hn, hc, hz, hp⟩ := h.1
  obtain ⟨b, off, rfl, hb, hcell⟩ := hp (by simp)
  have c0 : w.cell? ⟨b, off, none⟩ = some (.int .u8 z) := hcell 0 _ rfl
  have hz := u8_of_wf (h.2 z (by simp))
  have hz0 := hz.1
  have Hz := Lib.hid (number_core z hz)
  have HV := Lib.hid (show unpV 6 (leN [z]) = [0, 0, 0, numV z 8] by
    have e0 : (z + 256 * 0) / 2 ^ 0 % 2 ^ 8 = z := by omega
    simp only [unpV, outU, chL, restL, leN, List.foldl, e0]
    rfl)
  have HNz := Lib.hid (fun w => refNumber_any z 8 w hz0 Hz.out (by decide) (by decide))
  clear h hlen hp hcell
  rw [HV.out]
  go_enter Try.func111, Try.ntmps111
  go_wp2_with (first | (go_at_call_of 112 (Value.int IntKind.u32 z); refine (HNz.out _).mono ?_; rintro e w' ⟨rfl, rfl⟩))
  have hload := run_loadVar_whole (P := Try.prog) 26 _ (heap_alloc_new w (.cells (vecC [0, 0, 0, numV z 8]) 26)) Try.underlying26 rfl info_vec
  exact bodyPost_ret (results_cell1 rfl _ _ _ _ rfl hload) rfl ⟨rfl, (Ext.refl _).alloc _⟩

set_option maxHeartbeats 4000000 in
set_option maxRecDepth 20000 in
theorem refunp7 (v : Value) (z y : Int) (w : World) (h : Ints .u8 w v [z, y]) : Calls Try.prog 111 #[.int .i64 7, v] w fun e w' => e = .returned (.agg (vecC (unpV 7 (leN [z, y])))) ∧ Ext w w' := by
  obtain ⟨hlen, a, cap, rfl, hn, hc, hz, hp⟩ := h.1
  obtain ⟨b, off, rfl, hb, hcell⟩ := hp (by simp)
  have c0 : w.cell? ⟨b, off, none⟩ = some (.int .u8 z) := hcell 0 _ rfl
  have hz := u8_of_wf (h.2 z (by simp))
  have hz0 := hz.1
  have Hz := Lib.hid (number_core z hz)
  have c1 : w.cell? ⟨b, off + 1, none⟩ = some (.int .u8 y) := hcell 1 _ rfl
  have hy := u8_of_wf (h.2 y (by simp))
  have hy0 := hy.1
  have Hy := Lib.hid (number_core y hy)
  have HV := Lib.hid (show unpV 7 (leN [z, y]) = [numV z 8, numV z 8, numV z 8, numV y 8] by
    have e0 : (z + 256 * (y + 256 * 0)) / 2 ^ 0 % 2 ^ 8 = z := by omega
    have e1 : (z + 256 * (y + 256 * 0)) / 2 ^ 8 % 2 ^ 8 = y := by omega
    simp only [unpV, outU, chL, restL, leN, List.foldl, e0, e1]
    rfl)
  have HNz := Lib.hid (fun w => refNumber_any z 8 w hz0 Hz.out (by decide) (by decide))
  have HNy := Lib.hid (fun w => refNumber_any y 8 w hy0 Hy.out (by decide) (by decide))
  clear h hlen hp hcell
  rw [HV.out]
  go_enter Try.func111, Try.ntmps111
  go_wp2_with (first | (go_at_call_of 112 (Value.int IntKind.u32 z); refine (HNz.out _).mono ?_; rintro e w' ⟨rfl, rfl⟩) | (go_at_call_of 112 (Value.int IntKind.u32 y); refine (HNy.out _).mono ?_; rintro e w' ⟨rfl, rfl⟩))
  have hload := run_loadVar_whole (P := Try.prog) 26 _ (heap_alloc_new w (.cells (vecC [numV z 8, numV z 8, numV z 8, numV y 8]) 26)) Try.underlying26 rfl info_vec
  exact bodyPost_ret (results_cell1 rfl _ _ _ _ rfl hload) rfl ⟨rfl, (Ext.refl _).alloc _⟩

end Go.Proofs.Ytgdcdkajicgliaa
namespace Go.Proofs.Ytgdcdkajicgliaa
open Go.RowKit
set_option linter.unusedVariables false
set_option maxRecDepth 100000

set_option maxHeartbeats 4000000 in
set_option maxRecDepth 20000 in
theorem refunp1 (v : Value) (z y x u : Int) (w : World) (h : Ints .u8 w v [z, y, x, u]) : Calls Try.prog 111 #[.int .i64 1, v] w fun e w' => e = .returned (.agg (vecC (unpV 1 (leN [z, y, x, u])))) ∧ Ext w w' := by
  obtain ⟨hlen, a, cap, rfl, hn, hc, hz, hp⟩ := h.1
  obtain ⟨b, off, rfl, hb, hcell⟩ := hp (by simp)
  have c0 : w.cell? ⟨b, off, none⟩ = some (.int .u8 z) := hcell 0 _ rfl
  have hz := u8_of_wf (h.2 z (by simp))
  have hz0 := hz.1
  have Hz := Lib.hid (number_core z hz)
  have c1 : w.cell? ⟨b, off + 1, none⟩ = some (.int .u8 y) := hcell 1 _ rfl
  have hy := u8_of_wf (h.2 y (by simp))
  have hy0 := hy.1
  have Hy := Lib.hid (number_core y hy)
  have c2 : w.cell? ⟨b, off + 2, none⟩ = some (.int .u8 x) := hcell 2 _ rfl
  have hx := u8_of_wf (h.2 x (by simp))
  have hx0 := hx.1
  have Hx := Lib.hid (number_core x hx)
  have c3 : w.cell? ⟨b, off + 3, none⟩ = some (.int .u8 u) := hcell 3 _ rfl
  have hu := u8_of_wf (h.2 u (by simp))
  have hu0 := hu.1
  have Hu := Lib.hid (number_core u hu)
  have HV := Lib.hid (show unpV 1 (leN [z, y, x, u]) = [numV z 8, numV y 8, numV x 8, numV u 8] by
    have e0 : (z + 256 * (y + 256 * (x + 256 * (u + 256 * 0)))) / 2 ^ 0 % 2 ^ 8 = z := by omega
    have e1 : (z + 256 * (y + 256 * (x + 256 * (u + 256 * 0)))) / 2 ^ 8 % 2 ^ 8 = y := by omega
    have e2 : (z + 256 * (y + 256 * (x + 256 * (u + 256 * 0)))) / 2 ^ 16 % 2 ^ 8 = x := by omega
    have e3 : (z + 256 * (y + 256 * (x + 256 * (u + 256 * 0)))) / 2 ^ 24 % 2 ^ 8 = u := by omega
    simp only [unpV, outU, chL, restL, leN, List.foldl, e0, e1, e2, e3]
    rfl)
  have HNz := Lib.hid (fun w => refNumber_any z 8 w hz0 Hz.out (by decide) (by decide))
  have HNy := Lib.hid (fun w => refNumber_any y 8 w hy0 Hy.out (by decide) (by decide))
  have HNx := Lib.hid (fun w => refNumber_any x 8 w hx0 Hx.out (by decide) (by decide))
  have HNu := Lib.hid (fun w => refNumber_any u 8 w hu0 Hu.out (by decide) (by decide))
  have HWz := Lib.hid (wraps_u32 z hz0 (by have := hz.2; omega))
  have HWy := Lib.hid (wraps_u32 y hy0 (by have := hy.2; omega))
  have HWx := Lib.hid (wraps_u32 x hx0 (by have := hx.2; omega))
  have HWu := Lib.hid (wraps_u32 u hu0 (by have := hu.2; omega))
  clear h hlen hp hcell
  rw [HV.out]
  go_enter Try.func111, Try.ntmps111
  go_wp2_with (first | (go_at_call_of 112 (Value.int IntKind.u32 z); refine (HNz.out _).mono ?_; rintro e w' ⟨rfl, rfl⟩) | (go_at_call_of 112 (Value.int IntKind.u32 y); refine (HNy.out _).mono ?_; rintro e w' ⟨rfl, rfl⟩) | (go_at_call_of 112 (Value.int IntKind.u32 x); refine (HNx.out _).mono ?_; rintro e w' ⟨rfl, rfl⟩) | (go_at_call_of 112 (Value.int IntKind.u32 u); refine (HNu.out _).mono ?_; rintro e w' ⟨rfl, rfl⟩))
  go_region_held3 (fun w' => w'.cell? ⟨b, off, none⟩ = some (.int .u8 z) ∧ w'.cell? ⟨b, off + 1, none⟩ = some (.int .u8 y) ∧ w'.cell? ⟨b, off + 2, none⟩ = some (.int .u8 x) ∧ w'.cell? ⟨b, off + 3, none⟩ = some (.int .u8 u)) (go_keep) (first | (go_at_call_of 112 (Value.int IntKind.u32 (IntKind.u32.wrap z)); rw [HWz.out]; refine (HNz.out _).mono ?_; rintro e w' ⟨rfl, rfl⟩) | (go_at_call_of 112 (Value.int IntKind.u32 (IntKind.u32.wrap y)); rw [HWy.out]; refine (HNy.out _).mono ?_; rintro e w' ⟨rfl, rfl⟩) | (go_at_call_of 112 (Value.int IntKind.u32 (IntKind.u32.wrap x)); rw [HWx.out]; refine (HNx.out _).mono ?_; rintro e w' ⟨rfl, rfl⟩) | (go_at_call_of 112 (Value.int IntKind.u32 (IntKind.u32.wrap u)); rw [HWu.out]; refine (HNu.out _).mono ?_; rintro e w' ⟨rfl, rfl⟩))
  go_wp2_with fail
  have hheap : (w.alloc (.cells (vecC [numV z 8, numV y 8, numV x 8, numV u 8]) 26)).drew.heap[w.heap.size]? = some (.cells (vecC [numV z 8, numV y 8, numV x 8, numV u 8]) 26 (0, 0)) := (show (w.alloc (.cells (vecC [numV z 8, numV y 8, numV x 8, numV u 8]) 26)).drew.heap[w.heap.size]? = _ from heap_alloc_new w _)
  have hload := run_loadVar_whole (P := Try.prog) 26 _ hheap Try.underlying26 rfl info_vec
  exact bodyPost_ret (results_cell1 rfl _ _ _ _ rfl hload) rfl ⟨rfl, ((Ext.refl _).alloc _).drew⟩

end Go.Proofs.Ytgdcdkajicgliaa
namespace Go.Proofs.Ytgdcdkajicgliaa
open Go.RowKit
set_option linter.unusedVariables false
set_option maxRecDepth 100000

/-- What the document lays for a channel. -/
def refE (W : List Nat) (X : Int) (i : Nat) : Int :=
  if 0 < W.getD i 0 then numV (X / 2 ^ (W.drop (i + 1)).sum % 2 ^ (W.getD i 0)) (W.getD i 0) else if i = 3 then 65536 else 0
def refO (W : List Nat) (X : Int) (j : Nat) : List Int :=
  [if j ≤ 0 then refE W X 0 else 0, if j ≤ 1 then refE W X 1 else 0, if j ≤ 2 then refE W X 2 else 0, if j ≤ 3 then refE W X 3 else 65536]
theorem refO_step (W : List Nat) (X : Int) (m : Nat) (hm : m < 4) : refO W X m = (refO W X (m + 1)).set m (refE W X m) := by
  have : m = 0 ∨ m = 1 ∨ m = 2 ∨ m = 3 := by omega
  rcases this with rfl | rfl | rfl | rfl <;> simp [refO]
theorem refO_skip (W : List Nat) (X : Int) (m : Nat) (hm : m < 4) (h : ¬ 0 < W.getD m 0) : refO W X m = refO W X (m + 1) := by
  have he : refE W X m = if m = 3 then 65536 else 0 := by unfold refE; rw [if_neg h]
  have : m = 0 ∨ m = 1 ∨ m = 2 ∨ m = 3 := by omega
  rcases this with rfl | rfl | rfl | rfl <;> simp [refO, he]
theorem drop_sum (W : List Nat) (m : Nat) (h : m < W.length) : (W.drop m).sum = W.getD m 0 + (W.drop (m + 1)).sum := by
  rw [List.drop_eq_getElem_cons h, List.sum_cons, List.getD_eq_getElem?_getD, List.getElem?_eq_getElem h]
  rfl
theorem div_step (X : Int) (W : List Nat) (m : Nat) (h : m < W.length) : X / 2 ^ (W.drop (m + 1)).sum / 2 ^ (W.getD m 0) = X / 2 ^ (W.drop m).sum := by
  rw [drop_sum W m h, Nat.add_comm (W.getD m 0), Int.pow_add, Int.ediv_ediv_of_nonneg (Int.le_of_lt (Int.pow_pos (by decide)))]
theorem rem_core (x : Int) (k : Nat) (h0 : 0 ≤ x) (hk : k ≤ 16) : IntKind.u32.wrap (x.tmod (2 ^ k)) = x % 2 ^ k := by
  have p1 : (1 : Int) ≤ 2 ^ k := Int.pow_pos (by decide)
  have p2 : (2 : Int) ^ k ≤ 65536 := by
    have : (2 : Int) ^ k ≤ 2 ^ 16 := by exact_mod_cast Nat.pow_le_pow_right (by decide) hk
    simpa using this
  rw [Int.tmod_eq_emod_of_nonneg h0]
  have a := Int.emod_nonneg x (show (2 : Int) ^ k ≠ 0 by omega)
  have b := Int.emod_lt_of_pos x (show (0 : Int) < 2 ^ k by omega)
  exact wraps_u32 _ a (by omega)

set_option maxHeartbeats 4000000 in
set_option maxRecDepth 20000 in
theorem refunp_word (n : Nat) (v : Value) (z y : Int) (w : World) (hn : n = 2 ∨ n = 3 ∨ n = 4) (h : Ints .u8 w v [z, y]) : Calls Try.prog 111 #[.int .i64 (n : Int), v] w fun e w' => e = .returned (.agg (vecC (refO (widL n) (leN [z, y]) 0))) ∧ Ext w w' := by
  have hnum := Lib.hid (fun (w' : World) (x : Ext w w') => refnumber_any v [z, y] w' (h.ext x) (by simp))
  have hX := leN_bound [z, y] (fun t ht => u8_of_wf (h.2 t ht))
  have hX2 : leN [z, y] < 65536 := hX.2
  have hX0 := hX.1
  obtain ⟨hlen, a, cap, rfl, _, hc, hz, hp⟩ := h.1
  have hwid : Hid (∀ w, Calls Try.prog 104 #[.int .i64 (n : Int)] w fun e w' => e = .returned (.agg (widC n)) ∧ Ext w w') := fun w => widths_any n w
  have hWl : (widL n).length = 4 := by unfold widL; split <;> (try split) <;> rfl
  have hW8 : ∀ k ∈ widL n, k ≤ 8 := by unfold widL; split <;> (try split) <;> decide
  obtain ⟨q0, q1, q2, q3, hq⟩ : ∃ q0 q1 q2 q3, widL n = [q0, q1, q2, q3] := by
    match hW : widL n, hWl with
    | [q0, q1, q2, q3], _ => exact ⟨q0, q1, q2, q3, rfl⟩
  have hwc : widC n = #[.int .i64 (q0 : Int), .int .i64 (q1 : Int), .int .i64 (q2 : Int), .int .i64 (q3 : Int)] := by unfold widC; rw [hq]; rfl
  rw [hwc] at hwid
  have n1 : ((n : Int) == 1) = false := by rcases hn with rfl | rfl | rfl <;> rfl
  have n5 : ((n : Int) == 5) = false := by rcases hn with rfl | rfl | rfl <;> rfl
  have n6 : ((n : Int) == 6) = false := by rcases hn with rfl | rfl | rfl <;> rfl
  have n7 : ((n : Int) == 7) = false := by rcases hn with rfl | rfl | rfl <;> rfl
  generalize hXe : leN [z, y] = X at *
  have hXw : wrap64 X = X := w64_in X (by omega)
  clear hn hXe hwc hX h hlen hp
  go_enter Try.func111, Try.ntmps111
  go_wp2_with (first | (go_at_call 130; refine (hnum.out _ ((Ext.refl _).alloc _)).mono ?_; rintro e w1 ⟨rfl, rfl⟩) | (go_at_call 104; refine (hwid.out _).mono ?_; rintro e w1 ⟨rfl, hx1⟩; have hres1 := hx1.heap (heap_alloc_new _ _)))
  obtain ⟨w2, wb, ob, hw2, hwb, hob, hx2, hne, hbig⟩ : ∃ w2 wb ob, ((w1.alloc (.cells #[.int .i64 (q0 : Int), .int .i64 (q1 : Int), .int .i64 (q2 : Int), .int .i64 (q3 : Int)] 180)).alloc (.cells #[.int .i32 0, .int .i32 0, .int .i32 0, .int .i32 65536] 26)) = w2 ∧ (w1.heap.size = wb ∧ w2.heap[wb]? = some (.cells #[.int .i64 (q0 : Int), .int .i64 (q1 : Int), .int .i64 (q2 : Int), .int .i64 (q3 : Int)] 180 (0, 0))) ∧ (w1.heap.size + 1 = ob ∧ w2.heap[ob]? = some (.cells #[.int .i32 0, .int .i32 0, .int .i32 0, .int .i32 65536] 26 (0, 0))) ∧ Ext w1 w2 ∧ wb ≠ ob ∧ w1.heap.size ≤ ob :=
    ⟨_, _, _, rfl, ⟨rfl, ((Ext.refl _).alloc _).heap (heap_alloc_new _ _)⟩, ⟨rfl, by have := heap_alloc_new (w1.alloc (.cells #[.int .i64 (q0 : Int), .int .i64 (q1 : Int), .int .i64 (q2 : Int), .int .i64 (q3 : Int)] 180)) (.cells #[.int .i32 0, .int .i32 0, .int .i32 0, .int .i32 65536] 26); rw [World.size_alloc] at this; exact this⟩, ((Ext.refl _).alloc _).alloc _, by omega, by omega⟩
  rw [hw2, hob.1, hwb.1]
  have hws := hx1.size
  rw [World.size_alloc] at hws
  have hx := Lib.hid ((((Ext.refl w).alloc _).trans hx1).trans hx2)
  have hres := Lib.hid (hx2.heap hres1)
  have hwb' := hwb.2
  have hob' := hob.2
  clear hw2 hwb hob hx1 hx2 hres1 hnum hwid
  go_loopw [7, 10] (fun x i wr => ∃ (j : Nat), j ≤ 4 ∧ i = .int .i64 ((j : Int) - 1) ∧ x = .int .i64 (X / 2 ^ ((widL n).drop j).sum) ∧ wr.heap[ob]? = some (.cells (vecC (refO (widL n) X j)) 26 (0, 0)) ∧ Chg [ob] w2 wr) (fun _ i _ => (intOf i + 1).toNat)
  case atStart => exact ⟨4, Nat.le_refl _, rfl, by rw [hq]; simp, by rw [hob']; rfl, Chg.refl _ _⟩
  case round =>
    obtain ⟨j, hj, rfl, rfl, hwo, hc2⟩ := hrel
    rcases j with _ | m
    · have hresR := hc2.heap hres.out (by simp; omega)
      have hxr := Lib.hid (hx.out.chgTrans hc2 (by simp; omega))
      have d0 : wr.cell? ⟨ob, 0, none⟩ = some (.int .i32 (refE (widL n) X 0)) := cell_of_heap hwo rfl
      have d1 : wr.cell? ⟨ob, 1, none⟩ = some (.int .i32 (refE (widL n) X 1)) := cell_of_heap hwo rfl
      have d2 : wr.cell? ⟨ob, 2, none⟩ = some (.int .i32 (refE (widL n) X 2)) := cell_of_heap hwo rfl
      have d3 : wr.cell? ⟨ob, 3, none⟩ = some (.int .i32 (refE (widL n) X 3)) := cell_of_heap hwo rfl
      have HV := Lib.hid (show refO (widL n) X 0 = [refE (widL n) X 0, refE (widL n) X 1, refE (widL n) X 2, refE (widL n) X 3] from rfl)
      generalize refE (widL n) X 0 = t0 at *
      generalize refE (widL n) X 1 = t1 at *
      generalize refE (widL n) X 2 = t2 at *
      generalize refE (widL n) X 3 = t3 at *
      clear hwo hc2 hj
      go_wp2_with (refine wpList_store_whole rfl 26 _ _ rfl w.heap.size #[.int .i32 t0, .int .i32 t1, .int .i32 t2, .int .i32 t3] rfl rfl #[.int .i32 0, .int .i32 0, .int .i32 0, .int .i32 0] 26 hresR rfl info_vec (by simp [Value.oneCell']) ?_; intro w7 hw7 hc7)
      have hload := run_loadVar_whole (P := Try.prog) 26 _ hw7 Try.underlying26 rfl info_vec
      refine bodyPost_ret (results_cell1 rfl _ _ _ _ rfl hload) rfl ?_
      rw [HV.out]
      exact ⟨rfl, hxr.out.chgTrans hc7 (by simp)⟩
    · have e1 : ((m + 1 : Nat) : Int) - 1 = (m : Int) := by omega
      rw [e1]
      have hm4 : m < 4 := by omega
      have hm4' : (m : Int) < 4 := by omega
      have hm0' : (0 : Int) ≤ (m : Int) := by omega
      have hk8 : (widL n).getD m 0 ≤ 8 := by rw [List.getD_eq_getElem?_getD, List.getElem?_eq_getElem (by omega)]; exact hW8 _ (List.getElem_mem _)
      have hwbr := hc2.heap hwb' (by simp; omega)
      have hck : wr.cell? ⟨wb, m, none⟩ = some (.int .i64 (((widL n).getD m 0 : Nat) : Int)) := cell_of_heap hwbr (by
        rw [hq]
        have : m = 0 ∨ m = 1 ∨ m = 2 ∨ m = 3 := by omega
        rcases this with rfl | rfl | rfl | rfl <;> rfl)
      have hstep := Lib.hid (refO_step (widL n) X m hm4)
      have hskip := Lib.hid (refO_skip (widL n) X m hm4)
      have hdiv := Lib.hid (div_step X (widL n) m (by omega))
      have hE := Lib.hid (show refE (widL n) X m = if 0 < (widL n).getD m 0 then numV (X / 2 ^ ((widL n).drop (m + 1)).sum % 2 ^ ((widL n).getD m 0)) ((widL n).getD m 0) else if m = 3 then 65536 else 0 from rfl)
      have hsum := Lib.hid (drop_sum (widL n) m (by omega))
      have hx0 : 0 ≤ X / 2 ^ ((widL n).drop (m + 1)).sum := Int.ediv_nonneg hX0 (Int.le_of_lt (Int.pow_pos (by decide)))
      have hx1 : X / 2 ^ ((widL n).drop (m + 1)).sum ≤ X := Int.ediv_le_self _ hX0
      generalize hxe : X / 2 ^ ((widL n).drop (m + 1)).sum = x at *
      have HXE := Lib.hid hxe
      clear hxe
      generalize (widL n).getD m 0 = k at *
      have hwos := heap_lt hwo
      have hwbs := heap_lt hwbr
      have c3 : wr.cell? ⟨ob, m, none⟩ = some (.int .i32 ((refO (widL n) X (m + 1)).getD m 0)) := cell_of_heap hwo (by
        have : m = 0 ∨ m = 1 ∨ m = 2 ∨ m = 3 := by omega
        rcases this with rfl | rfl | rfl | rfl <;> rfl)
      have c4 : wr.frozen? ⟨ob, m, none⟩ = false := free_of_heap hwo
      have HWO := Lib.hid hwo
      have HC2 := Lib.hid hc2
      have hne2 : ob ≠ wb := fun e => hne e.symm
      clear hwbr e1 hwo hc2
      by_cases hk : 0 < k
      · have hk' : (0 : Int) < (k : Int) := by omega
        have hnz : ¬ (2 : Int) ^ k = 0 := by have : (0 : Int) < 2 ^ k := Int.pow_pos (by decide); omega
        have HR := Lib.hid (rem_core x k hx0 (by omega))
        have hn0 : 0 ≤ x % 2 ^ k := Int.emod_nonneg _ hnz
        have HN1 := Lib.hid (show x % 2 ^ k < 2 ^ k from Int.emod_lt_of_pos _ (Int.pow_pos (by decide)))
        have hk62 : k ≤ 62 := by omega
        have hk16 : k ≤ 16 := by omega
        have hk1 : 1 ≤ k := hk
        clear hskip
        go_wp2_with fail
        go_region_held3 (fun w' => w'.cell? ⟨wb, m, none⟩ = some (.int .i64 (k : Int))) (go_keep) (first | (go_at_call 105; refine (power_any k _ hk62).mono ?_; rintro e w' ⟨rfl, rfl⟩) | (go_at_call 112; rw [HR.out]; refine (refNumber_any _ k _ hn0 HN1.out hk1 hk16).mono ?_; rintro e w' ⟨rfl, rfl⟩))
        have HQ := Lib.hid (show wrap64 (x.tdiv (2 ^ k)) = x / 2 ^ k by
          rw [Int.tdiv_eq_ediv_of_nonneg hx0]
          have := Int.ediv_le_self (2 ^ k) hx0
          have := Int.ediv_nonneg hx0 (show (0 : Int) ≤ 2 ^ k from Int.le_of_lt (Int.pow_pos (by decide)))
          exact w64_in _ (by omega))
        go_wp2_with (go_at_call 105; refine (power_any k _ hk62).mono ?_; rintro e w' ⟨rfl, rfl⟩)
        go_roundw
        case rel => exact ⟨m, by omega, by go_num, by rw [hdiv.out], ((Ext.refl _).drew).heap ((heap_set HWO.out).trans (by rw [hstep.out, hE.out, if_pos hk]; unfold vecC; simp [List.map_set])), (HC2.out.setCell (by simp) _).ext2 ((Ext.refl _).drew)⟩
        case measure => simp [intOf]
      · obtain rfl : k = 0 := by omega
        have HS := Lib.hid (show X / 2 ^ ((widL n).drop m).sum = x by rw [hsum.out, Nat.zero_add]; exact HXE.out)
        clear hk
        go_wp2_with fail
        go_roundw
        case rel => exact ⟨m, by omega, by go_num, by rw [HS.out], by rw [hskip.out (by decide)]; exact HWO.out, HC2.out⟩
        case measure => simp [intOf]

theorem refO_unp (n : Nat) (X : Int) (hn : n = 2 ∨ n = 3 ∨ n = 4) : refO (widL n) X 0 = unpV n X := by
  rcases hn with rfl | rfl | rfl <;> rfl
theorem szV_cases (n : Nat) (h1 : 1 ≤ n) (h7 : n ≤ 7) : (n = 1 ∧ szV n = 4) ∨ ((n = 2 ∨ n = 3 ∨ n = 4) ∧ szV n = 2) ∨ (n = 5 ∧ szV n = 1) ∨ (n = 6 ∧ szV n = 1) ∨ (n = 7 ∧ szV n = 2) := by
  have : n = 1 ∨ n = 2 ∨ n = 3 ∨ n = 4 ∨ n = 5 ∨ n = 6 ∨ n = 7 := by omega
  rcases this with rfl | rfl | rfl | rfl | rfl | rfl | rfl <;> decide
theorem refunp_any (n : Nat) (v : Value) (zs : List Int) (w : World) (h1 : 1 ≤ n) (h7 : n ≤ 7) (h : Ints .u8 w v zs) (hl : (zs.length : Int) = szV n) : Calls Try.prog 111 #[.int .i64 (n : Int), v] w fun e w' => e = .returned (.agg (vecC (unpV n (leN zs)))) ∧ Ext w w' := by
  rcases szV_cases n h1 h7 with ⟨rfl, hs⟩ | ⟨hn, hs⟩ | ⟨rfl, hs⟩ | ⟨rfl, hs⟩ | ⟨rfl, hs⟩ <;> rw [hs] at hl
  · match zs, hl with
    | [z, y, x, u], _ => exact refunp1 v z y x u w h
  · match zs, hl with
    | [z, y], _ => rw [← refO_unp n _ hn]; exact refunp_word n v z y w hn h
  · match zs, hl with
    | [z], _ => exact refunp5 v z w h
  · match zs, hl with
    | [z], _ => exact refunp6 v z w h
  · match zs, hl with
    | [z, y], _ => exact refunp7 v z y w h
end Go.Proofs.Ytgdcdkajicgliaa
