/- Plain laws: what the document's reader tells is what the numbers' readers tell. No conditions beyond each theorem's own. -/
import Derived.Test.YtooieiehmffgdaaOct8
namespace Go.Proofs.Ytooieiehmffgdaa
open Go.RowKit
set_option linter.unusedVariables false

theorem takeR_wf (bs : List Int) (at_ : Nat) (er n : Int) (h : ∀ z ∈ bs, (Lit.int .u8 z).wf = true) : ∀ z ∈ (takeR bs at_ er n).1, 0 ≤ z ∧ z < 256 := by
  intro z hz
  unfold takeR at hz
  split at hz
  · simp at hz
  · split at hz
    · simp at hz
    · split at hz
      · simp at hz
      · exact u8_of_wf (h z (List.mem_of_mem_drop (List.mem_of_mem_take hz)))

theorem takeR_len (bs : List Int) (at_ : Nat) (er n : Int) (m : Nat) (hm : n = m) (hat : at_ ≤ bs.length) : ((takeR bs at_ er n).2.2 ≠ 0 ∧ (takeR bs at_ er n).1 = []) ∨ ((takeR bs at_ er n).2.2 = 0 ∧ (takeR bs at_ er n).1.length = m) := by
  subst hm
  unfold takeR
  split
  · rename_i h; exact .inl ⟨h, rfl⟩
  · split
    · exact .inl ⟨by simp, rfl⟩
    · split
      · exact .inl ⟨by simp, rfl⟩
      · refine .inr ⟨rfl, ?_⟩
        simp only [Int.toNat_natCast, List.length_take, List.length_drop]
        omega

theorem takeR_err (bs : List Int) (at_ : Nat) (er n : Int) (h : (takeR bs at_ er n).2.2 ≠ 0) : (takeR bs at_ er n).1 = [] := by
  unfold takeR at h ⊢
  split
  · rfl
  · split
    · rfl
    · split
      · rfl
      · rename_i h1 h2 h3
        rw [if_neg h1, if_neg h2, if_neg h3] at h
        simp at h

theorem told_raw (bs : List Int) (at_ : Nat) (er n : Int) : toldB 6 (takeR bs at_ er n) = (takeR bs at_ er n).1 := by
  unfold toldB
  split
  · rename_i h; exact (takeR_err bs at_ er n h).symm
  · rw [if_pos rfl]
theorem told_none (kd : Int) (T : List Int × Nat × Int) (h : kd ≠ 6) : toldB kd T = [] := by
  unfold toldB
  split
  · rfl
  · first | rfl | rw [if_neg h]
theorem told_zero (kd er : Int) (T : List Int × Nat × Int) (h : 6 ≤ kd) : toldN kd er T = 0 := by
  unfold toldN
  split
  · rfl
  · first | (rw [if_neg (by omega), if_neg (by omega)]; done) | rfl | (split <;> first | rfl | (exfalso; omega) | (split <;> first | rfl | (exfalso; omega)))

theorem wrap_i8_eq (n : Int) : IntKind.i8.wrap n = (n + 128) % 256 - 128 := by simp only [IntKind.wrap, IntKind.bits, IntKind.signed]; simp; split <;> omega
theorem wrap_i16_eq (n : Int) : IntKind.i16.wrap n = (n + 32768) % 65536 - 32768 := by simp only [IntKind.wrap, IntKind.bits, IntKind.signed]; simp; split <;> omega
theorem wrap_u8_eq (n : Int) : IntKind.u8.wrap n = n % 256 := by simp [IntKind.wrap, IntKind.bits, IntKind.signed]
theorem wrap_u32_eq (n : Int) : IntKind.u32.wrap n = n % 4294967296 := by simp [IntKind.wrap, IntKind.bits, IntKind.signed]

section
variable (bs : List Int) (at_ : Nat) (er : Int) (hat : at_ ≤ bs.length) (h : ∀ z ∈ bs, (Lit.int .u8 z).wf = true)
include hat h

theorem told_u8 : IntKind.u8.wrap (leN (takeR bs at_ er 1).1) = toldN 0 er (takeR bs at_ er 1) ∧ 0 ≤ toldN 0 er (takeR bs at_ er 1) ∧ toldN 0 er (takeR bs at_ er 1) < 4294967296 := by
  have hb := leN_bound _ (takeR_wf bs at_ er 1 h)
  rcases takeR_len bs at_ er 1 1 rfl hat with ⟨h1, h2⟩ | ⟨h1, h2⟩
  · have e : toldN 0 er (takeR bs at_ er 1) = 0 := by unfold toldN; rw [if_pos h1]
    rw [e]
    rw [h2]
    decide
  · have e : toldN 0 er (takeR bs at_ er 1) = leN (takeR bs at_ er 1).1 := by unfold toldN; rw [if_neg (by simpa using h1), if_pos (by decide)]
    rw [e, wrap_u8_eq]
    rw [h2] at hb
    generalize leN (takeR bs at_ er 1).1 = y at *
    omega
theorem told_u16 : IntKind.u16.wrap (leN (takeR bs at_ er 2).1) = toldN 1 er (takeR bs at_ er 2) ∧ 0 ≤ toldN 1 er (takeR bs at_ er 2) ∧ toldN 1 er (takeR bs at_ er 2) < 4294967296 := by
  have hb := leN_bound _ (takeR_wf bs at_ er 2 h)
  rcases takeR_len bs at_ er 2 2 rfl hat with ⟨h1, h2⟩ | ⟨h1, h2⟩
  · have e : toldN 1 er (takeR bs at_ er 2) = 0 := by unfold toldN; rw [if_pos h1]
    rw [e]
    rw [h2]
    decide
  · have e : toldN 1 er (takeR bs at_ er 2) = leN (takeR bs at_ er 2).1 := by unfold toldN; rw [if_neg (by simpa using h1), if_pos (by decide)]
    rw [e, wrap_u16_eq]
    rw [h2] at hb
    generalize leN (takeR bs at_ er 2).1 = y at *
    omega
theorem told_u32 : IntKind.u32.wrap (leN (takeR bs at_ er 4).1) = toldN 2 er (takeR bs at_ er 4) ∧ 0 ≤ toldN 2 er (takeR bs at_ er 4) ∧ toldN 2 er (takeR bs at_ er 4) < 4294967296 := by
  have hb := leN_bound _ (takeR_wf bs at_ er 4 h)
  rcases takeR_len bs at_ er 4 4 rfl hat with ⟨h1, h2⟩ | ⟨h1, h2⟩
  · have e : toldN 2 er (takeR bs at_ er 4) = 0 := by unfold toldN; rw [if_pos h1]
    rw [e]
    rw [h2]
    decide
  · have e : toldN 2 er (takeR bs at_ er 4) = leN (takeR bs at_ er 4).1 := by unfold toldN; rw [if_neg (by simpa using h1), if_pos (by decide)]
    rw [e, wrap_u32_eq]
    rw [h2] at hb
    generalize leN (takeR bs at_ er 4).1 = y at *
    omega
theorem told_i8 : IntKind.i8.wrap (leN (takeR bs at_ er 1).1) = toldN 3 er (takeR bs at_ er 1) ∧ -2147483648 ≤ toldN 3 er (takeR bs at_ er 1) ∧ toldN 3 er (takeR bs at_ er 1) ≤ 2147483647 := by
  have hb := leN_bound _ (takeR_wf bs at_ er 1 h)
  rcases takeR_len bs at_ er 1 1 rfl hat with ⟨h1, h2⟩ | ⟨h1, h2⟩
  · have e : toldN 3 er (takeR bs at_ er 1) = 0 := by unfold toldN; rw [if_pos h1]
    rw [e]
    rw [h2]
    decide
  · have e : toldN 3 er (takeR bs at_ er 1) = sgnN (takeR bs at_ er 1).1 := by unfold toldN; rw [if_neg (by simpa using h1), if_neg (by decide), if_pos (by decide)]
    have e2 : halfN (takeR bs at_ er 1).1.length = 128 := by rw [h2]; decide
    rw [e, wrap_i8_eq]
    rw [h2] at hb
    unfold sgnN
    rw [e2]
    generalize leN (takeR bs at_ er 1).1 = y at *
    split <;> omega
theorem told_i16 : IntKind.i16.wrap (leN (takeR bs at_ er 2).1) = toldN 4 er (takeR bs at_ er 2) ∧ -2147483648 ≤ toldN 4 er (takeR bs at_ er 2) ∧ toldN 4 er (takeR bs at_ er 2) ≤ 2147483647 := by
  have hb := leN_bound _ (takeR_wf bs at_ er 2 h)
  rcases takeR_len bs at_ er 2 2 rfl hat with ⟨h1, h2⟩ | ⟨h1, h2⟩
  · have e : toldN 4 er (takeR bs at_ er 2) = 0 := by unfold toldN; rw [if_pos h1]
    rw [e]
    rw [h2]
    decide
  · have e : toldN 4 er (takeR bs at_ er 2) = sgnN (takeR bs at_ er 2).1 := by unfold toldN; rw [if_neg (by simpa using h1), if_neg (by decide), if_pos (by decide)]
    have e2 : halfN (takeR bs at_ er 2).1.length = 32768 := by rw [h2]; decide
    rw [e, wrap_i16_eq]
    rw [h2] at hb
    unfold sgnN
    rw [e2]
    generalize leN (takeR bs at_ er 2).1 = y at *
    split <;> omega
theorem told_i32 : IntKind.i32.wrap (leN (takeR bs at_ er 4).1) = toldN 5 er (takeR bs at_ er 4) ∧ -2147483648 ≤ toldN 5 er (takeR bs at_ er 4) ∧ toldN 5 er (takeR bs at_ er 4) ≤ 2147483647 := by
  have hb := leN_bound _ (takeR_wf bs at_ er 4 h)
  rcases takeR_len bs at_ er 4 4 rfl hat with ⟨h1, h2⟩ | ⟨h1, h2⟩
  · have e : toldN 5 er (takeR bs at_ er 4) = 0 := by unfold toldN; rw [if_pos h1]
    rw [e]
    rw [h2]
    decide
  · have e : toldN 5 er (takeR bs at_ er 4) = sgnN (takeR bs at_ er 4).1 := by unfold toldN; rw [if_neg (by simpa using h1), if_neg (by decide), if_pos (by decide)]
    have e2 : halfN (takeR bs at_ er 4).1.length = 2147483648 := by rw [h2]; decide
    rw [e, IntKind.wrap_i32]
    rw [h2] at hb
    unfold sgnN
    rw [e2]
    generalize leN (takeR bs at_ er 4).1 = y at *
    split <;> omega
end

end Go.Proofs.Ytooieiehmffgdaa
