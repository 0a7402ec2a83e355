/- Painting a tile's strokes leaves the other tiles' cells, in plain words. Conditions: each theorem's own premises. -/
import Derived.Test.YtgdcdkajicgliaaPln
namespace Go.Proofs.Ytgdcdkajicgliaa
open Go.RowKit
set_option linter.unusedVariables false
set_option maxRecDepth 100000
set_option linter.unusedSimpArgs false

theorem cell_other (s : St) (t : Int) (W H : Nat) (a : Pl × Nat) (h : a.1.Ok) (hw : a.1.W = W) (hh : a.1.H = H) (q : Sk) (hq : inT W H t q = true) (x y : Nat) (hx : x < W) (hy : y < H) (ht : tlV W x y ≠ t) : cellV (stepK s a q).1 (y * W + x) = cellV a.1 (y * W + x) := by
  unfold inT at hq
  rw [Bool.and_eq_true, decide_eq_true_eq] at hq
  obtain ⟨h1, h2⟩ := hq
  rw [inB_inP, ← hw, ← hh] at h1
  rw [stepK_in s a q h1]
  have hr : inP a.1.W a.1.H (x : Int) (y : Int) = true := by
    unfold inP
    rw [hw, hh]
    simp
    omega
  have hne := plc_tile (P := a.1) (q := q) (r := { q with x := x, y := y }) h1 hr (by
    rw [hw, h2]
    exact fun e => ht e.symm)
  have hi := plc_lt (P := a.1) (q := { q with x := x, y := y }) hr
  have hp : plc a.1 { q with x := x, y := y } = y * W + x := by
    unfold plc
    rw [hw]
    rfl
  rw [hp] at hne hi
  have := cellV_lay h (plc_lt h1) hi (ptV s (skF q) q.col a.1).1
  rw [if_neg (fun e => hne e.symm)] at this
  exact this
theorem cells_other (s : St) (t : Int) (W H : Nat) : ∀ (L : List Sk) (a : Pl × Nat), a.1.Ok → a.1.W = W → a.1.H = H → (∀ q ∈ L, inT W H t q = true) → ∀ (x y : Nat), x < W → y < H → tlV W x y ≠ t → cellV (L.foldl (stepK s) a).1 (y * W + x) = cellV a.1 (y * W + x)
  | [], _, _, _, _, _, _, _, _, _, _ => rfl
  | q :: L, a, h, hw, hh, hL, x, y, hx, hy, ht => by
    obtain ⟨d1, d2⟩ := stepK_dim s a q
    have h1 := cells_other s t W H L (stepK s a q) (stepK_ok s a h q) (d1.trans hw) (d2.trans hh) (fun r hr => hL r (by simp [hr])) x y hx hy ht
    exact h1.trans (cell_other s t W H a h hw hh q (hL q (by simp)) x y hx hy ht)
theorem cntS_all (W H : Nat) (t : Int) (L : List Sk) (h : ∀ q ∈ L, inT W H t q = true) : cntS W H L = L.length := by
  unfold cntS
  rw [List.filter_eq_self.2 fun q hq => ?_]
  have := h q hq
  unfold inT at this
  rw [Bool.and_eq_true] at this
  exact this.1
theorem foldK_same (s : St) (L : List Sk) (a : Pl × Nat) : (L.foldl (stepK s) a).1.W = a.1.W ∧ (L.foldl (stepK s) a).1.H = a.1.H := foldK_dim s L a
end Go.Proofs.Ytgdcdkajicgliaa
