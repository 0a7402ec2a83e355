/- What is read. Conditions: each theorem's own premises. -/
import Derived.Test.YtgdcdkajicgliaaFra7
namespace Go.Proofs.Ytgdcdkajicgliaa
open Go.RowKit
set_option linter.unusedVariables false
set_option maxRecDepth 100000
set_option linter.unusedSimpArgs false

/-- Where a pixel lies among the bytes that are read. -/
def rdAt (x y w : Int) (q : Nat × Nat) : Nat := (4 * (((q.2 : Int) - y) * w + (q.1 : Int) - x)).toNat
def rdS (P : Pl) (x y w : Int) (o : List Int) (q : Nat × Nat) : List Int := splice o (rdAt x y w q) (lowB (packX 1 (cellV P (q.2 * P.W + q.1)).v.L) 4)
/-- The bytes after k pixels. -/
def rdk (P : Pl) (x y : Int) (w h : Nat) (k : Nat) : List Int := ((boxB ⟨x, y, w, h⟩ P.W P.H).take k).foldl (rdS P x y w) (List.replicate (4 * w * h) 0)
/-- What is read. -/
def rdV (P : Pl) (x y : Int) (w h : Nat) : List Int := (boxB ⟨x, y, w, h⟩ P.W P.H).foldl (rdS P x y w) (List.replicate (4 * w * h) 0)
theorem rdk_succ {P : Pl} {x y : Int} {w h k : Nat} {q : Nat × Nat} (hq : (boxB ⟨x, y, w, h⟩ P.W P.H)[k]? = some q) : rdk P x y w h (k + 1) = rdS P x y w (rdk P x y w h k) q := by
  unfold rdk
  rw [List.take_add_one, hq, List.foldl_append]
  rfl
theorem rdk_all (P : Pl) (x y : Int) (w h : Nat) : rdk P x y w h (boxB ⟨x, y, w, h⟩ P.W P.H).length = rdV P x y w h := by
  unfold rdk rdV
  rw [List.take_of_length_le (Nat.le_refl _)]
/-- What lies in a side of a box, in plain numbers. -/
theorem wi_in {i fr n : Int} (hi : 0 ≤ i ∧ i ≤ 64) (hf : -9223372036854775808 ≤ fr ∧ fr ≤ 9223372036854775807) (hn : 0 ≤ n ∧ n ≤ 9223372036854775807) : wiV i fr n = decide (fr ≤ i ∧ i - fr < n) := by
  unfold wiV ltU
  have e1 : IntKind.u64.wrap i = i % 18446744073709551616 := rfl
  have e2 : IntKind.u64.wrap fr = fr % 18446744073709551616 := rfl
  have e3 : IntKind.u64.wrap n = n % 18446744073709551616 := rfl
  have e4 : IntKind.u64.wrap (IntKind.u64.wrap i - IntKind.u64.wrap fr) = (IntKind.u64.wrap i - IntKind.u64.wrap fr) % 18446744073709551616 := rfl
  rw [e4, e1, e2, e3]
  rw [← Bool.decide_and, ← Bool.decide_and]
  apply decide_eq_decide.2
  omega
theorem rd_pos {x y : Int} {w h : Nat} {q : Nat × Nat} {W H : Nat} (hW : W ≤ 64) (hH : H ≤ 64) (hx : -9223372036854775808 ≤ x ∧ x ≤ 9223372036854775807) (hy : -9223372036854775808 ≤ y ∧ y ≤ 9223372036854775807) (hw : w ≤ 64) (hh : h ≤ 64) (hq : q ∈ boxB ⟨x, y, w, h⟩ W H) :
    x ≤ (q.1 : Int) ∧ (q.1 : Int) - x < w ∧ y ≤ (q.2 : Int) ∧ (q.2 : Int) - y < h ∧ rdAt x y w q + 4 ≤ 4 * w * h := by
  obtain ⟨h1, h2, h3⟩ := box_mem hq
  unfold inX at h3
  simp only [Bool.and_eq_true] at h3
  have a1 := h3.1
  have a2 := h3.2
  rw [wi_in (by omega) hx (by omega)] at a1
  rw [wi_in (by omega) hy (by omega)] at a2
  have a1 := of_decide_eq_true a1
  have a2 := of_decide_eq_true a2
  refine ⟨a1.1, a1.2, a2.1, a2.2, ?_⟩
  obtain ⟨r, hr⟩ : ∃ r : Nat, (q.2 : Int) - y = r := ⟨((q.2 : Int) - y).toNat, by omega⟩
  obtain ⟨c, hc⟩ : ∃ c : Nat, (q.1 : Int) - x = c := ⟨((q.1 : Int) - x).toNat, by omega⟩
  unfold rdAt
  have e : ((q.2 : Int) - y) * w + (q.1 : Int) - x = ((r * w + c : Nat) : Int) := by
    rw [hr, Int.natCast_add, Int.natCast_mul]
    omega
  rw [e]
  have h4 : r * w + c < h * w := by
    have := Nat.mul_le_mul_right w (show r + 1 ≤ h by omega)
    rw [Nat.succ_mul] at this
    omega
  have h5 : 4 * w * h = 4 * (h * w) := by rw [Nat.mul_assoc, Nat.mul_comm w h]
  omega
theorem rdk_len (P : Pl) (hW : P.W ≤ 64) (hH : P.H ≤ 64) {x y : Int} {w h : Nat} (hx : -9223372036854775808 ≤ x ∧ x ≤ 9223372036854775807) (hy : -9223372036854775808 ≤ y ∧ y ≤ 9223372036854775807) (hw : w ≤ 64) (hh : h ≤ 64) :
    ∀ k, k ≤ (boxB ⟨x, y, w, h⟩ P.W P.H).length → (rdk P x y w h k).length = 4 * w * h
  | 0, _ => by simp [rdk]
  | k + 1, hk => by
    obtain ⟨q, hq⟩ : ∃ q, (boxB ⟨x, y, w, h⟩ P.W P.H)[k]? = some q := ⟨_, List.getElem?_eq_getElem hk⟩
    rw [rdk_succ hq]
    have ih := rdk_len P hW hH hx hy hw hh k (by omega)
    have := rd_pos hW hH hx hy hw hh (List.mem_of_getElem? hq)
    unfold rdS
    rw [length_splice _ _ _ (by rw [lowB_length, ih]; omega)]
    exact ih
theorem rdk_wf (P : Pl) (x y : Int) (w h : Nat) : ∀ k, k ≤ (boxB ⟨x, y, w, h⟩ P.W P.H).length → ∀ z ∈ rdk P x y w h k, (Lit.int .u8 z).wf = true
  | 0, _ => by
    intro z hz
    simp only [rdk, List.take_zero, List.foldl_nil] at hz
    obtain ⟨_, rfl⟩ := List.mem_replicate.1 hz
    rfl
  | k + 1, hk => by
    obtain ⟨q, hq⟩ : ∃ q, (boxB ⟨x, y, w, h⟩ P.W P.H)[k]? = some q := ⟨_, List.getElem?_eq_getElem hk⟩
    rw [rdk_succ hq]
    have ih := rdk_wf P x y w h k (by omega)
    intro z hz
    unfold rdS splice at hz
    rcases List.mem_append.1 hz with h1 | h1
    · exact ih z (List.mem_of_mem_take h1)
    · rcases List.mem_append.1 h1 with h1 | h1
      · exact lowB_wf _ _ z h1
      · exact ih z (List.mem_of_mem_drop h1)
end Go.Proofs.Ytgdcdkajicgliaa
