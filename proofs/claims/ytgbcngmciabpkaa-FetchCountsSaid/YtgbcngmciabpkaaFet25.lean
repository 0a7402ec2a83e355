/- Which primitives there are of the numbers from 0 on; plain laws. Conditions: each theorem's own premises. -/
import Derived.Test.YtgbcngmciabpkaaFet24
namespace Go.Proofs.Ytgbcngmciabpkaa
open Go.RowKit Go.ChangeShapes
set_option linter.unusedVariables false

/-- The numbers from 0 on. -/
def numL (n : Nat) : List Int := (List.range n).map fun (j : Nat) => (j : Int)
theorem numL_len (n : Nat) : (numL n).length = n := by simp [numL]
theorem numL_at {n j : Nat} (h : j < n) : (numL n).getD j 0 = j := by
  unfold numL
  rw [List.getD_eq_getElem?_getD, List.getElem?_map, List.getElem?_range h]
  rfl
/-- A primitive's cells, as numbers. -/
def fourC (s a b c : Int) : List Value := [.int .i64 s, .int .i64 a, .int .i64 b, .int .i64 c]
theorem pm0 {n k : Nat} (h : k < pmLen 0 (numL n)) : k < n ∧ pmP 0 (numL n) k = fourC 1 k 0 0 := by
  have h1 : k < prN 0 n := by unfold pmLen isCl at h; rw [numL_len] at h; simpa using h
  have h2 : k * 1 + 1 ≤ n := (prN_iff 0 n k).1 h1
  refine ⟨by omega, ?_⟩
  unfold pmP
  rw [numL_len, if_pos h1, show spR 0 = 1 from rfl, prC_else (prB1 (by rw [numL_len]; omega)) (by simp) (by decide), numL_at (by omega), Nat.mul_one]
  rfl
theorem pm1 {n k : Nat} (h : k < pmLen 1 (numL n)) : 2 * k + 1 < n ∧ pmP 1 (numL n) k = fourC 2 (2 * k : Nat) (2 * k + 1 : Nat) 0 := by
  have h1 : k < prN 1 n := by unfold pmLen isCl at h; rw [numL_len] at h; simpa using h
  have h2 : k * 2 + 2 ≤ n := (prN_iff 1 n k).1 h1
  refine ⟨by omega, ?_⟩
  unfold pmP
  rw [numL_len, if_pos h1, show spR 1 = 2 from rfl, prC_else (prB2 (by rw [numL_len]; omega)) (by simp) (by decide), numL_at (by omega), numL_at (by omega), Nat.mul_comm k 2]
  rfl
theorem pm3 {n k : Nat} (h : k < pmLen 3 (numL n)) : k + 1 < n ∧ pmP 3 (numL n) k = fourC 2 k (k + 1 : Nat) 0 := by
  have h1 : k < prN 3 n := by unfold pmLen isCl at h; rw [numL_len] at h; simpa using h
  have h2 : k * 1 + 2 ≤ n := (prN_iff 3 n k).1 h1
  refine ⟨by omega, ?_⟩
  unfold pmP
  rw [numL_len, if_pos h1, show spR 3 = 1 from rfl, prC_else (prB2 (by rw [numL_len]; omega)) (by simp) (by decide), numL_at (by omega), numL_at (by omega), Nat.mul_one]
  rfl
theorem pm2 {n k : Nat} (h : k < pmLen 2 (numL n)) : k < n ∧ ((k + 1 < n ∧ pmP 2 (numL n) k = fourC 2 k (k + 1 : Nat) 0) ∨ (k + 1 = n ∧ pmP 2 (numL n) k = fourC 2 k 0 0)) := by
  by_cases h1 : k < prN 2 n
  · have h2 : k * 1 + 2 ≤ n := (prN_iff 2 n k).1 h1
    refine ⟨by omega, .inl ⟨by omega, ?_⟩⟩
    unfold pmP
    rw [numL_len, if_pos h1, show spR 2 = 1 from rfl, prC_else (prB2 (by rw [numL_len]; omega)) (by simp) (by decide), numL_at (by omega), numL_at (by omega), Nat.mul_one]
    rfl
  · unfold pmLen isCl at h
    rw [numL_len] at h
    have h3 : 1 < n ∧ k < prN 2 n + 1 := by
      by_cases hn : 1 < n
      · exact ⟨hn, by simpa [hn] using h⟩
      · simp [hn] at h; omega
    obtain ⟨hn, h4⟩ := h3
    have h5 := (prN_iff 2 n (n - 2)).2 (show (n - 2) * 1 + 2 ≤ n by omega)
    have h6 : ¬ k * 1 + 2 ≤ n := fun h => h1 ((prN_iff 2 n k).2 h)
    have h7 := prN_le 2 n
    have h8 : prN 2 n ≤ n - 1 := by
      rcases Nat.lt_or_ge (n - 1) (prN 2 n) with h9 | h9
      · have := (prN_iff 2 n (n - 1)).1 h9
        have : (n - 1) * 1 + 2 ≤ n := this
        omega
      · exact h9
    refine ⟨by omega, .inr ⟨by omega, ?_⟩⟩
    unfold pmP clC
    rw [numL_len, if_neg h1, numL_at (by omega), numL_at (by omega)]
    have : n - 1 = k := by omega
    rw [this]
    rfl
theorem pm4 {n k : Nat} (h : k < pmLen 4 (numL n)) : 3 * k + 2 < n ∧ pmP 4 (numL n) k = fourC 3 (3 * k : Nat) (3 * k + 1 : Nat) (3 * k + 2 : Nat) := by
  have h1 : k < prN 4 n := by unfold pmLen isCl at h; rw [numL_len] at h; simpa using h
  have h2 : k * 3 + 3 ≤ n := (prN_iff 4 n k).1 h1
  refine ⟨by omega, ?_⟩
  unfold pmP
  rw [numL_len, if_pos h1, show spR 4 = 3 from rfl, prC_else (prB3 (by rw [numL_len]; omega)) (by simp) (by decide), numL_at (by omega), numL_at (by omega), numL_at (by omega), Nat.mul_comm k 3]
  rfl
theorem pm5 {n k : Nat} (h : k < pmLen 5 (numL n)) : k + 2 < n ∧ pmP 5 (numL n) k = if k % 2 = 1 then fourC 3 (k + 1 : Nat) k (k + 2 : Nat) else fourC 3 k (k + 1 : Nat) (k + 2 : Nat) := by
  have h1 : k < prN 5 n := by unfold pmLen isCl at h; rw [numL_len] at h; simpa using h
  have h2 : k * 1 + 3 ≤ n := (prN_iff 5 n k).1 h1
  refine ⟨by omega, ?_⟩
  have hb : prB (numL n) k (szR 5) = [(k : Int), ((k + 1 : Nat) : Int), ((k + 2 : Nat) : Int)] := by
    rw [show szR 5 = 3 from rfl, prB3 (by rw [numL_len]; omega), numL_at (by omega), numL_at (by omega), numL_at (by omega)]
  unfold pmP
  rw [numL_len, if_pos h1, show spR 5 = 1 from rfl, Nat.mul_one]
  split
  · rw [prC_swap hb (by assumption)]; rfl
  · rw [prC_else hb (fun hh => absurd hh.2 (by assumption)) (by decide)]; rfl
theorem pm6 {n k : Nat} (h : k < pmLen 6 (numL n)) : k + 2 < n ∧ pmP 6 (numL n) k = fourC 3 0 (k + 1 : Nat) (k + 2 : Nat) := by
  have h1 : k < prN 6 n := by unfold pmLen isCl at h; rw [numL_len] at h; simpa using h
  have h2 : k * 1 + 3 ≤ n := (prN_iff 6 n k).1 h1
  refine ⟨by omega, ?_⟩
  have hb : prB (numL n) k (szR 6) = [(k : Int), ((k + 1 : Nat) : Int), ((k + 2 : Nat) : Int)] := by
    rw [show szR 6 = 3 from rfl, prB3 (by rw [numL_len]; omega), numL_at (by omega), numL_at (by omega), numL_at (by omega)]
  unfold pmP
  rw [numL_len, if_pos h1, show spR 6 = 1 from rfl, Nat.mul_one, prC_fan hb, numL_at (by omega)]
  rfl
/-- Whether a component is as it should be. -/
def compOk (n : Nat) (s q : Nat) (v : Int) : Prop := (q < s → 0 ≤ v ∧ v < n) ∧ (s ≤ q → v = 0)
theorem pm_ok {m : Int} (h1 : 0 ≤ m) (h2 : m ≤ 6) {n k : Nat} (h : k < pmLen m (numL n)) : ∃ a b c : Int, pmP m (numL n) k = fourC (szR m : Nat) a b c ∧ compOk n (szR m) 0 a ∧ compOk n (szR m) 1 b ∧ compOk n (szR m) 2 c := by
  rcases modes h1 h2 with rfl | rfl | rfl | rfl | rfl | rfl | rfl
  · obtain ⟨hn, he⟩ := pm0 h
    exact ⟨_, _, _, he, ⟨fun _ => by omega, fun h => by cases h⟩, ⟨fun h => absurd h (by decide), fun _ => rfl⟩, ⟨fun h => absurd h (by decide), fun _ => rfl⟩⟩
  · obtain ⟨hn, he⟩ := pm1 h
    exact ⟨_, _, _, he, ⟨fun _ => by omega, fun h => by cases h⟩, ⟨fun _ => by omega, fun h => absurd h (by decide)⟩, ⟨fun h => absurd h (by decide), fun _ => rfl⟩⟩
  · obtain ⟨hn, ⟨hn2, he⟩ | ⟨hn2, he⟩⟩ := pm2 h
    · exact ⟨_, _, _, he, ⟨fun _ => by omega, fun h => by cases h⟩, ⟨fun _ => by omega, fun h => absurd h (by decide)⟩, ⟨fun h => absurd h (by decide), fun _ => rfl⟩⟩
    · exact ⟨_, _, _, he, ⟨fun _ => by omega, fun h => by cases h⟩, ⟨fun _ => by omega, fun h => absurd h (by decide)⟩, ⟨fun h => absurd h (by decide), fun _ => rfl⟩⟩
  · obtain ⟨hn, he⟩ := pm3 h
    exact ⟨_, _, _, he, ⟨fun _ => by omega, fun h => by cases h⟩, ⟨fun _ => by omega, fun h => absurd h (by decide)⟩, ⟨fun h => absurd h (by decide), fun _ => rfl⟩⟩
  · obtain ⟨hn, he⟩ := pm4 h
    exact ⟨_, _, _, he, ⟨fun _ => by omega, fun h => by cases h⟩, ⟨fun _ => by omega, fun h => absurd h (by decide)⟩, ⟨fun _ => by omega, fun h => absurd h (by decide)⟩⟩
  · obtain ⟨hn, he⟩ := pm5 h
    split at he
    · exact ⟨_, _, _, he, ⟨fun _ => by omega, fun h => by cases h⟩, ⟨fun _ => by omega, fun h => absurd h (by decide)⟩, ⟨fun _ => by omega, fun h => absurd h (by decide)⟩⟩
    · exact ⟨_, _, _, he, ⟨fun _ => by omega, fun h => by cases h⟩, ⟨fun _ => by omega, fun h => absurd h (by decide)⟩, ⟨fun _ => by omega, fun h => absurd h (by decide)⟩⟩
  · obtain ⟨hn, he⟩ := pm6 h
    exact ⟨_, _, _, he, ⟨fun _ => by omega, fun h => by cases h⟩, ⟨fun _ => by omega, fun h => absurd h (by decide)⟩, ⟨fun _ => by omega, fun h => absurd h (by decide)⟩⟩
/-- How many vertices two triangles share. -/
def eqN (x y : Int) : Nat := if x = y then 1 else 0
def shN (a0 a1 a2 b0 b1 b2 : Int) : Nat := (eqN a0 b0 + eqN a0 b1 + eqN a0 b2) + (eqN a1 b0 + eqN a1 b1 + eqN a1 b2) + (eqN a2 b0 + eqN a2 b1 + eqN a2 b2)
theorem fourC_inj {s a b c s' a' b' c' : Int} (h : fourC s a b c = fourC s' a' b' c') : s = s' ∧ a = a' ∧ b = b' ∧ c = c' := by
  simpa [fourC] using h
theorem pm_sh {m : Int} (hm : m = 5 ∨ m = 6) {n k : Nat} (h : k + 1 < pmLen m (numL n)) {s a b c s' a' b' c' : Int} (h1 : pmP m (numL n) (k + 1) = fourC s a b c) (h2 : pmP m (numL n) k = fourC s' a' b' c') : shN a b c a' b' c' = 2 := by
  rcases hm with rfl | rfl
  · obtain ⟨_, e1⟩ := pm5 h
    obtain ⟨_, e2⟩ := pm5 (show k < pmLen 5 (numL n) by omega)
    rw [h1] at e1
    rw [h2] at e2
    split at e1 <;> split at e2
    · omega
    · obtain ⟨_, ha, hb, hc⟩ := fourC_inj e1
      obtain ⟨_, ha', hb', hc'⟩ := fourC_inj e2
      unfold shN eqN
      rw [if_neg (show ¬ a = a' by omega), if_neg (show ¬ a = b' by omega), if_pos (show a = c' by omega), if_neg (show ¬ b = a' by omega), if_pos (show b = b' by omega), if_neg (show ¬ b = c' by omega), if_neg (show ¬ c = a' by omega), if_neg (show ¬ c = b' by omega), if_neg (show ¬ c = c' by omega)]
    · obtain ⟨_, ha, hb, hc⟩ := fourC_inj e1
      obtain ⟨_, ha', hb', hc'⟩ := fourC_inj e2
      unfold shN eqN
      rw [if_pos (show a = a' by omega), if_neg (show ¬ a = b' by omega), if_neg (show ¬ a = c' by omega), if_neg (show ¬ b = a' by omega), if_neg (show ¬ b = b' by omega), if_pos (show b = c' by omega), if_neg (show ¬ c = a' by omega), if_neg (show ¬ c = b' by omega), if_neg (show ¬ c = c' by omega)]
    · omega
  · obtain ⟨_, e1⟩ := pm6 h
    obtain ⟨_, e2⟩ := pm6 (show k < pmLen 6 (numL n) by omega)
    rw [h1] at e1
    rw [h2] at e2
    obtain ⟨_, ha, hb, hc⟩ := fourC_inj e1
    obtain ⟨_, ha', hb', hc'⟩ := fourC_inj e2
    unfold shN eqN
    rw [if_pos (show a = a' by omega), if_neg (show ¬ a = b' by omega), if_neg (show ¬ a = c' by omega), if_neg (show ¬ b = a' by omega), if_neg (show ¬ b = b' by omega), if_pos (show b = c' by omega), if_neg (show ¬ c = a' by omega), if_neg (show ¬ c = b' by omega), if_neg (show ¬ c = c' by omega)]
theorem div_of {m : Int} {n q : Nat} (h1 : ∀ k, k < q ↔ k * spR m + szR m ≤ n) : prN m n = q := by
  rcases Nat.lt_trichotomy (prN m n) q with h | h | h
  · have := (prN_iff m n _).2 ((h1 _).1 h); omega
  · exact h
  · have := (h1 _).2 ((prN_iff m n _).1 h); omega
theorem len_want (n : Nat) : pmLen 0 (numL n) = n ∧ pmLen 1 (numL n) = n / 2 ∧ pmLen 2 (numL n) = (if 2 ≤ n then n else 0) ∧ pmLen 3 (numL n) = n - 1 ∧ pmLen 4 (numL n) = n / 3 ∧ pmLen 5 (numL n) = n - 2 ∧ pmLen 6 (numL n) = n - 2 := by
  have c0 : isCl 0 (numL n) = false := rfl
  have c1 : isCl 1 (numL n) = false := rfl
  have c3 : isCl 3 (numL n) = false := rfl
  have c4 : isCl 4 (numL n) = false := rfl
  have c5 : isCl 5 (numL n) = false := rfl
  have c6 : isCl 6 (numL n) = false := rfl
  unfold pmLen
  rw [c0, c1, c3, c4, c5, c6, numL_len]
  refine ⟨?_, ?_, ?_, ?_, ?_, ?_, ?_⟩
  · exact div_of (m := 0) fun k => by show k < n ↔ k * 1 + 1 ≤ n; omega
  · exact div_of (m := 1) fun k => by show k < n / 2 ↔ k * 2 + 2 ≤ n; omega
  · have h2 : prN 2 n = n - 1 := div_of (m := 2) fun k => by show k < n - 1 ↔ k * 1 + 2 ≤ n; omega
    rw [h2]
    unfold isCl
    rw [numL_len]
    by_cases hn : 1 < n
    · simp [hn]; rw [if_pos (by omega)]; omega
    · simp [hn]; rw [if_neg (by omega)]; omega
  · exact div_of (m := 3) fun k => by show k < n - 1 ↔ k * 1 + 2 ≤ n; omega
  · exact div_of (m := 4) fun k => by show k < n / 3 ↔ k * 3 + 3 ≤ n; omega
  · exact div_of (m := 5) fun k => by show k < n - 2 ↔ k * 1 + 3 ≤ n; omega
  · exact div_of (m := 6) fun k => by show k < n - 2 ↔ k * 1 + 3 ≤ n; omega
end Go.Proofs.Ytgbcngmciabpkaa
