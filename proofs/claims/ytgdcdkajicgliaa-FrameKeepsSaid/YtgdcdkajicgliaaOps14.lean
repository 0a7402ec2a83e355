/- Contract of ops' factors; what two colours are together. Conditions: each theorem's own premises. -/
import Derived.Test.YtgdcdkajicgliaaOps13
import Derived.Laws.EntriesVeiled
namespace Go.Proofs.Ytgdcdkajicgliaa
open Go.RowKit
set_option linter.unusedVariables false
set_option maxRecDepth 100000
set_option linter.unusedSimpArgs false

set_option maxHeartbeats 2000000 in
set_option maxRecDepth 20000 in
theorem factors_any (s d k : V4) (w : World) : Calls Try.prog 120 #[.agg s.C.toArray, .agg d.C.toArray, .agg k.C.toArray] w fun e w' =>
    ∃ ps pd pk pf : Nat, e = .returned (fnF ps pd pf) ∧ VAt w' ps s ∧ VAt w' pd d ∧ VAt w' pk k ∧ w'.heap[pf]? = some (.cells #[fnP ps pd pk] 193 (0, 0)) ∧ Ext w w' := by
  obtain ⟨w3, hw3, hs, hd, hk, hx⟩ := heap_three w (.cells s.C.toArray 26) (.cells d.C.toArray 26) (.cells k.C.toArray 26)
  have HW := Lib.hid hw3
  clear hw3
  go_enter Try.func120, Try.ntmps120
  go_upto_region 1 with fail
  rw [HW.out]
  generalize w.heap.size = b0 at *
  go_wp2
  go_ret
  refine ⟨b0, b0 + 1, b0 + 1 + 1, w3.heap.size, rfl, ?_, ?_, ?_, ?_, ?_⟩
  · exact VAt.ext hs ((Ext.refl _).alloc _)
  · exact VAt.ext hd ((Ext.refl _).alloc _)
  · exact VAt.ext hk ((Ext.refl _).alloc _)
  · exact heap_alloc_new _ _
  · exact hx.alloc _
def blendOf (s : St) (ch : Nat) : Bl := if ch = 3 then s.al else s.rgb
def zV (eqn x y : Int) : Int := if eqn = 1 then addV x y else if eqn = 2 then subV x y else subV y x
def mixCh (s : St) (c old : V4) (ch : Nat) : Int :=
  zV (blendOf s ch).eqn (mulV (vget c ch) (factorV (blendOf s ch).src ch c old s.k)) (mulV (vget old ch) (factorV (blendOf s ch).dst ch c old s.k))
/-- What two colours are together. -/
def mixV (s : St) (color old : V4) : V4 :=
  if s.bl then V4.cl ⟨mixCh s color.cl old 0, mixCh s color.cl old 1, mixCh s color.cl old 2, mixCh s color.cl old 3⟩ else color.cl
theorem blOk_of {s : St} (h : stOk s = true) (ch : Nat) : (1 ≤ (blendOf s ch).eqn ∧ (blendOf s ch).eqn ≤ 3) ∧ (1 ≤ (blendOf s ch).src ∧ (blendOf s ch).src ≤ 15) ∧ (1 ≤ (blendOf s ch).dst ∧ (blendOf s ch).dst ≤ 14) := by
  unfold stOk at h
  simp only [Bool.and_eq_true, List.all_cons, List.all_nil, Bool.and_true] at h
  have h1 := h.2.1
  have h2 := h.2.2
  unfold blendOf
  split
  · simpa [blOk, inV, and_assoc] using h2
  · simpa [blOk, inV, and_assoc] using h1
end Go.Proofs.Ytgdcdkajicgliaa
