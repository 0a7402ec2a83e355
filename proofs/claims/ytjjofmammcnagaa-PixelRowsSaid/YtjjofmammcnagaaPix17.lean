/- What was unpacked is packed the same: plain laws; bytes.Equal of equal bytes. Conditions: each theorem's own premises. -/
import Derived.Test.YtjjofmammcnagaaPix16
import Derived.Laws.BytesArg
namespace Go.Proofs.Ytjjofmammcnagaa
open Go.RowKit
set_option linter.unusedVariables false

theorem mod_pow (X : Int) (b : Nat) : 0 ≤ X % 2 ^ b ∧ X % 2 ^ b < 2 ^ b :=
  ⟨Int.emod_nonneg _ (by have : (0 : Int) < 2 ^ b := Int.pow_pos (by decide); omega), Int.emod_lt_of_pos _ (Int.pow_pos (by decide))⟩
theorem bnum (X : Int) (b : Nat) (h1 : 1 ≤ b) (h2 : b ≤ 16) : bitsV (numV (X % 2 ^ b) b) b = X % 2 ^ b := bits_num _ b h1 h2 (mod_pow X b).1 (mod_pow X b).2
theorem nbd (X : Int) (b : Nat) (h1 : 1 ≤ b) (h2 : b ≤ 16) : -2147483648 ≤ numV (X % 2 ^ b) b ∧ numV (X % 2 ^ b) b ≤ 2147483647 := by
  have := num_bd (X % 2 ^ b) b (mod_pow X b).1 (mod_pow X b).2 h1 h2
  omega
theorem unp_1 (X : Int) : unpV 1 X = [numV (X / 2 ^ 0 % 2 ^ 8) 8, numV (X / 2 ^ 8 % 2 ^ 8) 8, numV (X / 2 ^ 16 % 2 ^ 8) 8, numV (X / 2 ^ 24 % 2 ^ 8) 8] := rfl
theorem packunp_1 (X : Int) (h0 : 0 ≤ X) (h1 : X < 256 ^ szN 1) : packX 1 (unpV 1 X) = X := by
  have hp : (256 : Int) ^ szN 1 = 4294967296 := by decide
  rw [hp] at h1
  rw [unp_1]
  simp only [packX, List.getD_cons_zero, List.getD_cons_succ]
  rw [bnum (X / 2 ^ 0) 8 (by decide) (by decide), bnum (X / 2 ^ 8) 8 (by decide) (by decide), bnum (X / 2 ^ 16) 8 (by decide) (by decide), bnum (X / 2 ^ 24) 8 (by decide) (by decide)]
  omega
theorem ok_1 (X : Int) : VecOk (unpV 1 X) := by
  rw [unp_1]
  refine ⟨rfl, fun x hx => ?_⟩
  simp only [List.mem_cons, List.not_mem_nil, or_false] at hx
  rcases hx with rfl | rfl | rfl | rfl <;> first | exact nbd _ _ (by decide) (by decide) | omega
theorem unp_2 (X : Int) : unpV 2 X = [numV (X / 2 ^ 11 % 2 ^ 5) 5, numV (X / 2 ^ 5 % 2 ^ 6) 6, numV (X / 2 ^ 0 % 2 ^ 5) 5, 65536] := rfl
theorem packunp_2 (X : Int) (h0 : 0 ≤ X) (h1 : X < 256 ^ szN 2) : packX 2 (unpV 2 X) = X := by
  have hp : (256 : Int) ^ szN 2 = 65536 := by decide
  rw [hp] at h1
  rw [unp_2]
  simp only [packX, List.getD_cons_zero, List.getD_cons_succ]
  rw [bnum (X / 2 ^ 11) 5 (by decide) (by decide), bnum (X / 2 ^ 5) 6 (by decide) (by decide), bnum (X / 2 ^ 0) 5 (by decide) (by decide)]
  omega
theorem ok_2 (X : Int) : VecOk (unpV 2 X) := by
  rw [unp_2]
  refine ⟨rfl, fun x hx => ?_⟩
  simp only [List.mem_cons, List.not_mem_nil, or_false] at hx
  rcases hx with rfl | rfl | rfl | rfl <;> first | exact nbd _ _ (by decide) (by decide) | omega
theorem unp_3 (X : Int) : unpV 3 X = [numV (X / 2 ^ 12 % 2 ^ 4) 4, numV (X / 2 ^ 8 % 2 ^ 4) 4, numV (X / 2 ^ 4 % 2 ^ 4) 4, numV (X / 2 ^ 0 % 2 ^ 4) 4] := rfl
theorem packunp_3 (X : Int) (h0 : 0 ≤ X) (h1 : X < 256 ^ szN 3) : packX 3 (unpV 3 X) = X := by
  have hp : (256 : Int) ^ szN 3 = 65536 := by decide
  rw [hp] at h1
  rw [unp_3]
  simp only [packX, List.getD_cons_zero, List.getD_cons_succ]
  rw [bnum (X / 2 ^ 12) 4 (by decide) (by decide), bnum (X / 2 ^ 8) 4 (by decide) (by decide), bnum (X / 2 ^ 4) 4 (by decide) (by decide), bnum (X / 2 ^ 0) 4 (by decide) (by decide)]
  omega
theorem ok_3 (X : Int) : VecOk (unpV 3 X) := by
  rw [unp_3]
  refine ⟨rfl, fun x hx => ?_⟩
  simp only [List.mem_cons, List.not_mem_nil, or_false] at hx
  rcases hx with rfl | rfl | rfl | rfl <;> first | exact nbd _ _ (by decide) (by decide) | omega
theorem unp_4 (X : Int) : unpV 4 X = [numV (X / 2 ^ 11 % 2 ^ 5) 5, numV (X / 2 ^ 6 % 2 ^ 5) 5, numV (X / 2 ^ 1 % 2 ^ 5) 5, numV (X / 2 ^ 0 % 2 ^ 1) 1] := rfl
theorem packunp_4 (X : Int) (h0 : 0 ≤ X) (h1 : X < 256 ^ szN 4) : packX 4 (unpV 4 X) = X := by
  have hp : (256 : Int) ^ szN 4 = 65536 := by decide
  rw [hp] at h1
  rw [unp_4]
  simp only [packX, List.getD_cons_zero, List.getD_cons_succ]
  rw [bnum (X / 2 ^ 11) 5 (by decide) (by decide), bnum (X / 2 ^ 6) 5 (by decide) (by decide), bnum (X / 2 ^ 1) 5 (by decide) (by decide), bnum (X / 2 ^ 0) 1 (by decide) (by decide)]
  omega
theorem ok_4 (X : Int) : VecOk (unpV 4 X) := by
  rw [unp_4]
  refine ⟨rfl, fun x hx => ?_⟩
  simp only [List.mem_cons, List.not_mem_nil, or_false] at hx
  rcases hx with rfl | rfl | rfl | rfl <;> first | exact nbd _ _ (by decide) (by decide) | omega
theorem unp_5 (X : Int) : unpV 5 X = [numV (X / 2 ^ 0 % 2 ^ 8) 8, numV (X / 2 ^ 0 % 2 ^ 8) 8, numV (X / 2 ^ 0 % 2 ^ 8) 8, 65536] := rfl
theorem packunp_5 (X : Int) (h0 : 0 ≤ X) (h1 : X < 256 ^ szN 5) : packX 5 (unpV 5 X) = X := by
  have hp : (256 : Int) ^ szN 5 = 256 := by decide
  rw [hp] at h1
  rw [unp_5]
  simp only [packX, List.getD_cons_zero]
  rw [bnum (X / 2 ^ 0) 8 (by decide) (by decide)]
  omega
theorem ok_5 (X : Int) : VecOk (unpV 5 X) := by
  rw [unp_5]
  refine ⟨rfl, fun x hx => ?_⟩
  simp only [List.mem_cons, List.not_mem_nil, or_false] at hx
  rcases hx with rfl | rfl | rfl | rfl <;> first | exact nbd _ _ (by decide) (by decide) | omega
theorem unp_6 (X : Int) : unpV 6 X = [0, 0, 0, numV (X / 2 ^ 0 % 2 ^ 8) 8] := rfl
theorem packunp_6 (X : Int) (h0 : 0 ≤ X) (h1 : X < 256 ^ szN 6) : packX 6 (unpV 6 X) = X := by
  have hp : (256 : Int) ^ szN 6 = 256 := by decide
  rw [hp] at h1
  rw [unp_6]
  simp only [packX, List.getD_cons_zero, List.getD_cons_succ]
  rw [bnum (X / 2 ^ 0) 8 (by decide) (by decide)]
  omega
theorem ok_6 (X : Int) : VecOk (unpV 6 X) := by
  rw [unp_6]
  refine ⟨rfl, fun x hx => ?_⟩
  simp only [List.mem_cons, List.not_mem_nil, or_false] at hx
  rcases hx with rfl | rfl | rfl | rfl <;> first | exact nbd _ _ (by decide) (by decide) | omega
theorem unp_7 (X : Int) : unpV 7 X = [numV (X / 2 ^ 0 % 2 ^ 8) 8, numV (X / 2 ^ 0 % 2 ^ 8) 8, numV (X / 2 ^ 0 % 2 ^ 8) 8, numV (X / 2 ^ 8 % 2 ^ 8) 8] := rfl
theorem packunp_7 (X : Int) (h0 : 0 ≤ X) (h1 : X < 256 ^ szN 7) : packX 7 (unpV 7 X) = X := by
  have hp : (256 : Int) ^ szN 7 = 65536 := by decide
  rw [hp] at h1
  rw [unp_7]
  simp only [packX, List.getD_cons_zero, List.getD_cons_succ]
  rw [bnum (X / 2 ^ 0) 8 (by decide) (by decide), bnum (X / 2 ^ 8) 8 (by decide) (by decide)]
  omega
theorem ok_7 (X : Int) : VecOk (unpV 7 X) := by
  rw [unp_7]
  refine ⟨rfl, fun x hx => ?_⟩
  simp only [List.mem_cons, List.not_mem_nil, or_false] at hx
  rcases hx with rfl | rfl | rfl | rfl <;> first | exact nbd _ _ (by decide) (by decide) | omega
theorem packunp (n : Nat) (X : Int) (h1 : 1 ≤ n) (h7 : n ≤ 7) (h0 : 0 ≤ X) (hX : X < 256 ^ szN n) : packX n (unpV n X) = X := by
  have : n = 1 ∨ n = 2 ∨ n = 3 ∨ n = 4 ∨ n = 5 ∨ n = 6 ∨ n = 7 := by omega
  rcases this with rfl | rfl | rfl | rfl | rfl | rfl | rfl
  · exact packunp_1 X h0 hX
  · exact packunp_2 X h0 hX
  · exact packunp_3 X h0 hX
  · exact packunp_4 X h0 hX
  · exact packunp_5 X h0 hX
  · exact packunp_6 X h0 hX
  · exact packunp_7 X h0 hX
theorem unp_ok (n : Nat) (X : Int) (h1 : 1 ≤ n) (h7 : n ≤ 7) : VecOk (unpV n X) := by
  have : n = 1 ∨ n = 2 ∨ n = 3 ∨ n = 4 ∨ n = 5 ∨ n = 6 ∨ n = 7 := by omega
  rcases this with rfl | rfl | rfl | rfl | rfl | rfl | rfl
  · exact ok_1 X
  · exact ok_2 X
  · exact ok_3 X
  · exact ok_4 X
  · exact ok_5 X
  · exact ok_6 X
  · exact ok_7 X
theorem lowB_leN : ∀ (l : List Int), (∀ z ∈ l, 0 ≤ z ∧ z < 256) → lowB (leN l) l.length = l
  | [], _ => rfl
  | b :: l, h => by
    have hb := h b (by simp)
    have := leN_bound l fun z hz => h z (by simp [hz])
    simp only [leN, List.length_cons, lowB]
    rw [show (b + 256 * leN l) % 256 = b by omega, show (b + 256 * leN l) / 256 = leN l by omega, lowB_leN l fun z hz => h z (by simp [hz])]
theorem chunk_back (n : Nat) (l : List Int) (h1 : 1 ≤ n) (h7 : n ≤ 7) (hl : l.length = szN n) (h : ∀ z ∈ l, 0 ≤ z ∧ z < 256) : lowB (packX n (unpV n (leN l))) (szN n) = l := by
  have hb := leN_bound l h
  rw [hl] at hb
  rw [packunp n _ h1 h7 hb.1 hb.2, ← hl]
  exact lowB_leN l h
/-- The colours of pixels. -/
def rowL (n : Nat) (zs : List Int) (q : Nat) : List (List Int) := (List.range q).map (colAt n (szN n) zs)
theorem rowL_length (n : Nat) (zs : List Int) (q : Nat) : (rowL n zs q).length = q := by simp [rowL]
theorem rowL_cells (n : Nat) (zs : List Int) (q : Nat) : vecsC (rowL n zs q) = rowC n (szN n) zs q := by
  unfold vecsC rowL rowC
  rw [List.flatMap_map]
theorem rowL_ok (n : Nat) (zs : List Int) (q : Nat) (h1 : 1 ≤ n) (h7 : n ≤ 7) : ∀ c ∈ rowL n zs q, VecOk c := by
  intro c hc
  unfold rowL at hc
  obtain ⟨i, _, rfl⟩ := List.mem_map.1 hc
  exact unp_ok n _ h1 h7
theorem layB_rows (n : Nat) (zs : List Int) (h1 : 1 ≤ n) (h7 : n ≤ 7) (h : ∀ z ∈ zs, 0 ≤ z ∧ z < 256) : ∀ q, q * szN n ≤ zs.length → layB n (rowL n zs q) = zs.take (q * szN n) := by
  intro q
  induction q with
  | zero => intro _; simp [rowL, layB]
  | succ q ih =>
    intro hq
    rw [Nat.succ_mul] at hq ⊢
    have e : rowL n zs (q + 1) = rowL n zs q ++ [colAt n (szN n) zs q] := by unfold rowL; rw [List.range_succ, List.map_append]; rfl
    unfold layB at *
    rw [e, List.flatMap_append, ih (by omega), List.take_add]
    congr 1
    rw [List.flatMap_cons, List.flatMap_nil, List.append_nil]
    exact chunk_back n _ h1 h7 (by rw [List.length_take, List.length_drop]; omega) (fun z hz => h z (List.mem_of_mem_drop (List.mem_of_mem_take hz)))

theorem conv_ints {w : World} {v : Value} {zs : List Int} (h : Ints .u8 w v zs) : (convert 22 9 v).run Try.prog w = .ok (.string (strOfNums zs)) w := by
  obtain ⟨a, cap, rfl⟩ : ∃ a cap, v = .slice a zs.length cap := by obtain ⟨⟨_, a, cap, rfl, _⟩, _⟩ := h; exact ⟨a, cap, rfl⟩
  by_cases h0 : 0 < zs.length
  · obtain ⟨b, off, rfl, _, hc⟩ := h.pos h0
    exact run_convert_bytes_arg w 22 5 Try.underlying22 Try.underlying5 b off zs.length cap zs rfl hc 9 Try.underlying9
  · have : zs = [] := List.eq_nil_of_length_eq_zero (by omega)
    subst this
    show (convert 22 9 (.slice a 0 cap)).run Try.prog w = _
    rw [run_convert_bytes_string w 22 9 5 a 0 cap Try.underlying22 Try.underlying5 Try.underlying9]
    cases a with
    | none => simp [Conv.bytesToString, strOfNums]; rfl
    | some x => simp [Conv.bytesToString, strOfNums, loadCells, loadCellsFrom]; rfl
theorem equal_any (v u : Value) (zs : List Int) (w : World) (h : Ints .u8 w v zs) (k : Ints .u8 w u zs) : Calls Try.prog 23 #[v, u] w fun e w' => e = .returned (.bool true) ∧ w = w' := by
  have h1 := conv_ints h
  have k1 := conv_ints k
  go_enter Try.func23, Try.ntmps23
  go_wp2
  go_ret
  exact ⟨by simp, rfl⟩
end Go.Proofs.Ytjjofmammcnagaa
