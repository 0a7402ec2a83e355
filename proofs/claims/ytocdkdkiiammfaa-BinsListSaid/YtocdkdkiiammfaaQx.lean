/- Regions that draw their order, whose callees only lay new blocks: one walk in the text's order. Conditions: each theorem's own premises. -/
import Derived.BigQuiet
import Derived.Deep.QuietTactic
import Derived.Test.YtocdkdkiiammfaaKit
namespace Go.Proofs.Ytocdkdkiiammfaa
open Go.RowKit
set_option linter.unusedVariables false

/-- A world behind w, in which all that lay lies as it lay. -/
structure XW (w : World) where
  W : World
  h : Ext w W
instance (w : World) : Nonempty (XW w) := ⟨⟨w, Ext.refl w⟩⟩
theorem wp_region_ext {P : Program} {id : Nat} {Q : Exit → Act → World → Prop} {a : Act} {w : World} {l : List Oper} (hm : P.follows .mixedOrders = true) (hB : Region.lexB .any l.toArray = true)
    (h : wpQuiet P l.toArray (fun w' => ∃ x : XW w, w' = x.W) (fun a' => ∀ w', (∃ x : XW w, w' = x.W) → Q .normal a' w') l a) : (Code.region id l.toArray true).wp P Q a w :=
  wp_region_quiet (C := fun w' => ∃ x : XW w, w' = x.W) hm hB ⟨⟨_, (Ext.refl w).drew⟩, rfl⟩ (by simpa using h)
theorem quiet_ext {P : Program} {f : FuncId} {args : Array Value} {w : World} {x : XW w} {v : Value}
    (h : Calls P f args x.W fun e w' => e = .returned v ∧ Ext x.W w') : Calls P f args x.W fun e w'' => e = .returned v ∧ ∃ y : XW w, w'' = y.W :=
  h.mono fun _ w' ⟨he, hx⟩ => ⟨he, ⟨⟨w', x.h.trans hx⟩, rfl⟩⟩
end Go.Proofs.Ytocdkdkiiammfaa
