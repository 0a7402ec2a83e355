/- A region that draws its order, in a round of a range over a function: as anywhere. Conditions: each theorem's own premises. -/
import Derived.Test.YtgdcdkajicgliaaProg
import Derived.OrdersIn
import Derived.RangeFuncCalls
namespace Go.Proofs.Ytgdcdkajicgliaa
open Go
set_option linter.unusedVariables false

/-- No operation is a defer. -/
def plainOps (ops : Array Oper) : Bool := ops.toList.all fun o => match o.op with
  | .defer _ => false
  | _ => true
theorem plain_at {ops : Array Oper} (h : plainOps ops = true) {i : Nat} {o : Oper} (ho : ops[i]? = some o) : ∀ c, o.op ≠ .defer c := by
  intro c hc
  have := List.all_eq_true.1 h o (List.mem_of_getElem? (by rw [Array.getElem?_toList]; exact ho))
  rw [hc] at this
  cases this
theorem oper_round {l n : Nat} {P : Program} {o : Oper} {a : Act} {w : World} {K : Act → World → Prop} {Q : Exit → Act → World → Prop} (ho : ∀ c, o.op ≠ .defer c) (h : o.wpIn Fence.wide n P a w K Q) : o.wpIn (Fence.wide.inRound l) n P a w K Q := by
  unfold Oper.wpIn at *
  refine ⟨h.1, ?_⟩
  have h2 := h.2
  rw [Oper.semAt_eq _ _ _ ho] at h2 ⊢
  generalize (execOp a.eval o).run P w = r at *
  cases r with
  | ok x w' => cases x <;> exact h2
  | halt x w' => cases x <;> exact h2
theorem any_round {l n : Nat} {P : Program} {md : Region.Mode} {ops : Array Oper} {Q : Exit → Act → World → Prop} (hp : plainOps ops = true) : ∀ (fuel : Nat) (listed : Array Bool) (a : Act) (w : World), wpAnyIn Fence.wide n P md ops Q fuel listed a w → wpAnyIn (Fence.wide.inRound l) n P md ops Q fuel listed a w
  | 0, listed, a, w, h => h
  | fuel + 1, listed, a, w, h => by
    refine ⟨h.1, fun i hi => ?_⟩
    have h2 := h.2 i hi
    refine wpOpIn_mono (K := wpAnyIn Fence.wide n P md ops Q fuel (listed.setIfInBounds i true)) (fun a w h => any_round hp fuel _ a w h) ?_
    unfold wpOpIn at *
    cases ho : ops[i]? with
    | none => simpa [ho] using h2
    | some o =>
      simp only [ho] at h2 ⊢
      split
      · rename_i hw
        rw [if_pos hw] at h2
        exact oper_round (plain_at hp ho) h2
      · rename_i hw
        rw [if_neg hw] at h2
        exact h2
theorem region_round {l n : Nat} {P : Program} {id : Nat} {ops : Array Oper} {Q : Exit → Act → World → Prop} {a : Act} {w : World} (hm : P.follows .mixedOrders = true) (hp : plainOps ops = true)
    (h : wpAnyIn Fence.wide n P .any ops Q ops.size (Array.replicate ops.size false) a w.drew) : (Code.region id ops true).wpIn (Fence.wide.inRound l) n P Q a w :=
  wpIn_region_any hm (any_round hp _ _ _ _ h)
/-- Some slots, written one behind the other. -/
def putAll (a : Act) (L : List (Nat × Value)) : Act := L.foldl (fun a p => a.put (some p.1) p.2) a
/-- A piece of code with one way out. -/
theorem wp_via {F : Fence} {n : Nat} {P : Program} {c : Code} {Q : Exit → Act → World → Prop} {a : Act} {w : World} (L : List (Nat × Value)) (W : World) (h1 : c.wpIn F n P (fun e a' w' => e = .normal ∧ a' = putAll a L ∧ w' = W) a w) (h2 : Q .normal (putAll a L) W) : c.wpIn F n P Q a w :=
  wpIn_mono h1 (fun e a w he => by obtain ⟨rfl, rfl, rfl⟩ := he; exact h2)
theorem via_panic {A : Act} {W : World} {d : Option Tmp} {v : Value} : ∀ c (a : Act) (w : World), ((Exit.panic c = .normal ∧ a.put d v = A ∧ w = W) → (Exit.panic c = .normal ∧ a = A ∧ w = W)) := fun c a w h => by cases h.1
end Go.Proofs.Ytgdcdkajicgliaa
