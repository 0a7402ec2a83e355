/- A map from ints to bools that a function made. Conditions: each theorem's own premises. -/
import Derived.Test.YtdomijfkpbganaaKit
import Derived.Maps.Own
import Derived.Maps.OwnSet
import Derived.Maps.Keyed
namespace Go.Proofs.Ytdomijfkpbganaa
open Go.RowKit
set_option linter.unusedVariables false
variable {P : Program}

/-- Block b is a map of at most n entries that answers as f does. -/
def BMap (P : Program) (w : World) (k e : TypeId) (b n : Nat) (f : Int → Bool) : Prop :=
  ∃ D : DataW Unit, w.ownsMap P k (plainElem P e) b n D ∧ ∀ x, (Lit.int .i64 x).wf = true → D.atKey (.int .i64 x) (.lit (.bool false)) = .lit (.bool (f x))

theorem BMap.made (w : World) (k e : TypeId) : BMap P (w.alloc (.map #[] 0)) k e w.heap.size 0 (fun _ => false) :=
  ⟨.map [], World.ownsMap_made w P k _, fun x _ => rfl⟩
theorem BMap.lt {w : World} {k e : TypeId} {b n : Nat} {f : Int → Bool} (h : BMap P w k e b n f) : b < w.heap.size := by
  obtain ⟨D, h, _⟩ := h
  exact h.lt
theorem BMap.chg {M : List Nat} {w w' : World} {k e : TypeId} {b n : Nat} {f : Int → Bool} (h : BMap P w k e b n f) (x : Chg M w w') (hb : b ∉ M) : BMap P w' k e b n f := by
  obtain ⟨D, ⟨es, clock, hh, rest⟩, h2⟩ := h
  exact ⟨D, ⟨es, clock, x.heap hh hb, rest⟩, h2⟩
theorem BMap.look {w : World} {t k e : TypeId} {b n : Nat} {f : Int → Bool} (h : BMap P w k e b n f) (hk : P.underlying k = some (.int .i64)) (he : P.underlying e = some .bool) (ht : P.underlying t = some (.map k e))
    (hz : (zeroValue e).run P w = .ok (.bool false) w) (x : Int) (hx : (Lit.int .i64 x).wf = true) : (Instr.lookup t (.map (some b)) (.int .i64 x) false).run P w = .ok (.bool (f x)) w := by
  obtain ⟨D, h1, h2⟩ := h
  obtain ⟨v, ps, hr, hv⟩ := h1.lookup (Maps.int_keyed hk) ht hz (plainElem_bool he false) (Maps.keyOf_int_mk hk hx)
  rw [h2 x hx] at hv
  unfold plainElem at hv
  rw [he] at hv
  cases v <;> simp at hv
  rw [hr, hv.1]
theorem BMap.put {w : World} {t k e : TypeId} {b n : Nat} {f : Int → Bool} (h : BMap P w k e b n f) (hk : P.underlying k = some (.int .i64)) (he : P.underlying e = some .bool) (ht : P.underlying t = some (.map k e))
    (hn : n < maxLen) (x : Int) (hx : (Lit.int .i64 x).wf = true) (y : Bool) : ∃ w', (Instr.mapUpdate t (.map (some b)) (.int .i64 x) (.bool y)).run P w = .ok () w' ∧ BMap P w' k e b (n + 1) (fun j => if j = x then y else f j) ∧ Chg [b] w w' := by
  obtain ⟨D, h1, h2⟩ := h
  obtain ⟨w', hr, h3, hg⟩ := h1.update (Maps.int_keyed hk) ht hn (Maps.keyOf_int_mk hk hx) (plainElem_bool he y)
  refine ⟨w', hr, ⟨_, h3, fun j hj => ?_⟩, ⟨hg.os, hg.tape, hg.output, hg.size, fun i hi hm => hg.block i hi (fun e => hm (by simp [Option.some.inj e]))⟩⟩
  by_cases e1 : j = x
  · subst e1
    rw [Maps.atKey_put_same h1.isMap (show WideAt.IsKeyLit (.int .i64 j) from trivial)]
    simp
  · rw [Maps.atKey_put_other (fun e2 => e1 (by cases e2; rfl)), h2 j hj]
    simp [e1]
end Go.Proofs.Ytdomijfkpbganaa
