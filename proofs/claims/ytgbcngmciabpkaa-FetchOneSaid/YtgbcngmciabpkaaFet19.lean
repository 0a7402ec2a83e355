/- The other answers of Prims; equality of primitives; plain words on their cells. Conditions: each theorem's own premises. -/
import Derived.Test.YtgbcngmciabpkaaFet18
namespace Go.Proofs.Ytgbcngmciabpkaa
open Go.RowKit Go.ChangeShapes
set_option linter.unusedVariables false

theorem eq_tri9 (n : Nat) (a0 a1 a2 b0 b1 b2 : Int) (w : World) : (Op.equalIn (n + 2) 49 (.agg #[.int .i64 a0, .int .i64 a1, .int .i64 a2]) (.agg #[.int .i64 b0, .int .i64 b1, .int .i64 b2])).run Try.prog w = .ok (a0 == b0 && (a1 == b1 && a2 == b2)) w := by
  have u3 := Try.underlying3
  have a3' := Try.isAgg3
  have z3 := Try.sizeOf3
  rw [show n + 2 = (n + 1) + 1 from rfl, Op.equalIn]
  simp only [Sem.run_bind, run_underlying Try.underlying49, Result.andThen_ok]
  simp only [Std.Legacy.Range.forIn_eq_forIn_range', Std.Legacy.Range.size, Nat.sub_zero, Nat.add_sub_cancel, Nat.div_one, List.range'_succ, List.range'_zero, List.forIn_cons, List.forIn_nil]
  go_simp
  by_cases h1 : a0 = b0 <;> by_cases h2 : a1 = b1 <;> by_cases h3 : a2 = b2 <;> simp [h1, h2, h3]
theorem eq_prim (a0 a1 a2 a3 b0 b1 b2 b3 : Int) (w : World) : (Op.equalIn 10000 51 (.agg #[.int .i64 a0, .int .i64 a1, .int .i64 a2, .int .i64 a3]) (.agg #[.int .i64 b0, .int .i64 b1, .int .i64 b2, .int .i64 b3])).run Try.prog w = .ok (a0 == b0 && (a1 == b1 && (a2 == b2 && a3 == b3))) w := by
  have hv : (Op.equalIn 9999 49 (.agg #[.int .i64 a1, .int .i64 a2, .int .i64 a3]) (.agg #[.int .i64 b1, .int .i64 b2, .int .i64 b3])).run Try.prog w = .ok (a1 == b1 && (a2 == b2 && a3 == b3)) w := eq_tri9 9997 a1 a2 a3 b1 b2 b3 w
  have u4 := Try.underlying3
  have a4' := Try.isAgg3
  have z4 := Try.sizeOf3
  have a5' := Try.isAgg49
  have z5 := Try.sizeOf49
  rw [show (10000 : Nat) = 9999 + 1 from rfl, Op.equalIn]
  simp only [Sem.run_bind, run_underlying Try.underlying51, Result.andThen_ok]
  go_simp
  by_cases h1 : a0 = b0 <;> by_cases h2 : a1 = b1 <;> by_cases h3 : a2 = b2 <;> by_cases h4 : a3 = b3 <;> simp [h1, h2, h3, h4]

theorem fprims_bad (m : Int) (hm : m < 0 ∨ 6 < m) (v : Value) (w : World) : Calls Try.prog 19 #[.int .i64 m, v] w fun e w' => e = .returned (.tuple #[.slice none 0 0, .int .i64 2]) ∧ Ext w w' := by
  have HB := Lib.hid (show (decide (0 ≤ m) && decide (m ≤ 6)) = false by
    rcases hm with h | h
    · rw [decide_eq_false (by omega)]; rfl
    · rw [decide_eq_false (show ¬ m ≤ 6 by omega), Bool.and_false])
  clear hm
  go_enter Try.func19, Try.ntmps19
  go_wp2_with (go_at_call 26; refine (between_any _ _ _ _).mono ?_; rw [HB.out]; rintro _ _ ⟨rfl, rfl⟩)
  go_ret2
  exact ⟨rfl, Ext.refl _⟩
theorem fprims_long (m : Int) (hm1 : 0 ≤ m) (hm2 : m ≤ 6) (a : Option Addr) (n c : Nat) (hn : 256 < n) (w : World) : Calls Try.prog 19 #[.int .i64 m, .slice a n c] w fun e w' => e = .returned (.tuple #[.slice none 0 0, .int .i64 3]) ∧ Ext w w' := by
  have HB := Lib.hid (show (decide (0 ≤ m) && decide (m ≤ 6)) = true by rw [decide_eq_true hm1, decide_eq_true hm2]; rfl)
  have h2 : (256 : Int) < (n : Int) := by omega
  clear hm1 hm2 hn
  go_enter Try.func19, Try.ntmps19
  go_wp2_with (go_at_call 26; refine (between_any _ _ _ _).mono ?_; rw [HB.out]; rintro _ _ ⟨rfl, rfl⟩)
  go_ret2
  exact ⟨rfl, Ext.refl _⟩
set_option maxRecDepth 100000 in
theorem rprims_bad (m : Int) (hm : m < 0 ∨ 6 < m) (a : Option Addr) (n c : Nat) (w : World) : Calls Try.prog 20 #[.int .i64 m, .slice a n c] w fun e w' => e = .returned (.tuple #[.slice none 0 0, .bool false]) ∧ Ext w w' := by
  have h0 : (m == 0) = false := by simp; omega
  have h1 : (m == 1) = false := by simp; omega
  have h2 : (m == 2) = false := by simp; omega
  have h3 : (m == 3) = false := by simp; omega
  have h4 : (m == 4) = false := by simp; omega
  have h5 : (m == 5) = false := by simp; omega
  have h6 : (m == 6) = false := by simp; omega
  clear hm
  go_enter Try.func20, Try.ntmps20
  go_wp2_with fail
  go_ret2
  exact ⟨rfl, Ext.refl _⟩
theorem rprims_any (m : Int) (h1 : 0 ≤ m) (h2 : m ≤ 6) (lv : Value) (l : List Int) (w : World) (hl : Ints .i64 w lv l) (hlen : l.length ≤ 300) :
    Calls Try.prog 20 #[.int .i64 m, lv] w fun e w' => ∃ a cap, e = .returned (.tuple #[.slice a (pmLen m l) cap, .bool true]) ∧ SlC w' (.slice a (pmLen m l) cap) 4 (pmLen m l) (pmAll m l) ∧ Ext w w' := by
  rcases modes h1 h2 with rfl | rfl | rfl | rfl | rfl | rfl | rfl
  · exact rprims0 lv l w hl hlen
  · exact rprims1 lv l w hl hlen
  · exact rprims2 lv l w hl hlen
  · exact rprims3 lv l w hl hlen
  · exact rprims4 lv l w hl hlen
  · exact rprims5 lv l w hl hlen
  · exact rprims6 lv l w hl hlen

theorem pmF_at (m : Int) (l : List Int) (k : Nat) (hk : k ≤ prN m l.length) (j i : Nat) (hj : j < k) (hi : i < 4) : (pmF m l k)[j * 4 + i]? = (prC m l (j * spR m))[i]? := by
  induction k with
  | zero => omega
  | succ k ih =>
    have hl := pmF_len m l k (by omega)
    rw [pmF_succ]
    rcases Nat.lt_or_ge j k with h | h
    · rw [List.getElem?_append_left (by omega)]
      exact ih (by omega) h
    · obtain rfl : j = k := by omega
      rw [List.getElem?_append_right (by omega), hl]
      congr 1
      omega
/-- The k-th primitive. -/
def pmP (m : Int) (l : List Int) (k : Nat) : List Value := if k < prN m l.length then prC m l (k * spR m) else clC l
theorem pmP_four (m : Int) (l : List Int) (k : Nat) : ∃ p0 p1 p2 p3 : Int, pmP m l k = [.int .i64 p0, .int .i64 p1, .int .i64 p2, .int .i64 p3] := by
  unfold pmP
  split
  · exact prC_four ((prN_iff m l.length k).1 (by assumption))
  · exact ⟨_, _, _, _, rfl⟩
theorem pmP_at (m : Int) (l : List Int) (k : Nat) (hk : k < pmLen m l) (i : Nat) (hi : i < 4) : (pmAll m l)[k * 4 + i]? = (pmP m l k)[i]? := by
  have hl := pmF_len m l (prN m l.length) (Nat.le_refl _)
  unfold pmAll pmP
  by_cases hk' : k < prN m l.length
  · rw [if_pos hk', List.getElem?_append_left (by omega)]
    exact pmF_at m l _ (Nat.le_refl _) k i hk' hi
  · rw [if_neg hk']
    unfold pmLen at hk
    cases hc : isCl m l
    · rw [hc] at hk; simp at hk; omega
    · rw [hc] at hk
      simp at hk
      obtain rfl : k = prN m l.length := by omega
      rw [List.getElem?_append_right (by omega), hl, if_pos rfl]
      congr 1
      omega
theorem pmLen_le (m : Int) (l : List Int) : pmLen m l ≤ l.length + 1 := by
  have := prN_le m l.length
  unfold pmLen
  split <;> omega
/-- A primitive out of a slice of them. -/
theorem prim_load {w : World} {b off n : Nat} {cap : Nat} {m : Int} {l : List Int} (h : SlC w (.slice (some ⟨b, off, none⟩) n cap) 4 n (pmAll m l)) (hn : n = pmLen m l) (k : Nat) (hk : k < n) {p0 p1 p2 p3 : Int} (hp : pmP m l k = [.int .i64 p0, .int .i64 p1, .int .i64 p2, .int .i64 p3]) :
    (@Classical.epsilon _ neF (LdF 51 (.pointer (some ⟨b, off + k * 4, none⟩)))).run Try.prog w = .ok (.agg #[.int .i64 p0, .int .i64 p1, .int .i64 p2, .int .i64 p3]) w := by
  subst hn
  obtain ⟨b', off', he, hb, hc⟩ := h.pos (by omega)
  cases he
  refine ldF_ok (cs := [.int .i64 p0, .int .i64 p1, .int .i64 p2, .int .i64 p3]) _ (fun j v hv => ?_) Try.underlying51 rfl info_prim4
  have hj : j < 4 := (List.getElem?_eq_some_iff.1 hv).1
  have := hc (k * 4 + j) v (by rw [pmP_at m l k hk j hj, hp]; exact hv)
  rw [← Nat.add_assoc] at this
  exact this
end Go.Proofs.Ytgbcngmciabpkaa
