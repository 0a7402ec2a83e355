/-
  No cell of these rows narrows 'for every input' (looked for: loops, veiled, ifaces, maps, wideKeys, modest, calm, conditions, laid).
  DERIVED. THE GIVEN ROWS OF THIS SEAT. 7 by the template 'for every input the law returns true; each argument reads behind the call as it read before'; 0 by the template 'total and deterministic' (their statements: YtagjjgookiodbaaTotals.lean).
  GIVEN WITH THE SEED: the statements are not yours to turn. If you find one false, say at which input.
  Laid BY PROGRAM, IN A SANDBOX (cutbox-rows.mjs): the forced cells as the released guide's own fill.sh prints them over the translation 7467737c5731b8a1… (all of the seat's roots in one cut). By AI agents, Wed Nov 11 2026. No macro, syntax, notation, axiom, sorry.
-/
import Derived.Test.YtagjjgookiodbaaChecked
import GoSem.Claim
import GoSem.ClaimJoined
import GoSem.ClaimMapViews
import Derived.JoinedTies
import Derived.KernelRfl
namespace Go.Proofs.Ytagjjgookiodbaa
/- THE CELL 'sum', in the pinned program and in every row, IS THE sha256 OF THE DUMP (.gsa) THAT YtagjjgookiodbaaProg.lean LOADS. Nothing in Lean hashes anything: it is a label: what it is worth is what the hold of that sum in a sandbox is worth. -/
noncomputable def Try.pinned : Pinned := { name := "ytagjjgookiodbaa", sum := "7467737c5731b8a1ca2a67e2f472ee7e561a95d850734319798eb76d7d84c27f", checked := Try.checked }
namespace Rows
def none {H : Type} : Left H := { results := [], args := [] }

/-- 'paintboxlaw24.OpsApply': WHATEVER THE INPUT: true; the input reads as it did. -/
def opsApplySpec : ChangeSpec := { name := "opsApply", fn := fun _ => fun
  | [d1, d2] => { results := [.lit (.bool true)], args := [d1, d2] }
  | _ => none }
def opsApplyRow : OpenClaim := { program := "ytagjjgookiodbaa", sum := "7467737c5731b8a1ca2a67e2f472ee7e561a95d850734319798eb76d7d84c27f", func := "paintbox/paintboxlaw24.OpsApply", spec := "opsApply", unfollowed := true, recurses := true, apart := false }
def OpsApplySaid : Prop := opsApplyRow.holds Try.pinned (OpenSpec.ofChange opsApplySpec)

/-- ITS FALSE NEIGHBOUR: 'it returns false'. Refute it at one input. -/
def opsApplyWrong : ChangeSpec := { name := "opsApply", fn := fun _ => fun
  | [d1, d2] => { results := [.lit (.bool false)], args := [d1, d2] }
  | _ => none }
def OpsApplyWrongFalsely : Prop := opsApplyRow.holds Try.pinned (OpenSpec.ofChange opsApplyWrong)

/-- 'paintboxlaw24.OpsMix': WHATEVER THE INPUT: true; the input reads as it did. -/
def opsMixSpec : ChangeSpec := { name := "opsMix", fn := fun _ => fun
  | [d1, d2, d3] => { results := [.lit (.bool true)], args := [d1, d2, d3] }
  | _ => none }
def opsMixRow : OpenClaim := { program := "ytagjjgookiodbaa", sum := "7467737c5731b8a1ca2a67e2f472ee7e561a95d850734319798eb76d7d84c27f", func := "paintbox/paintboxlaw24.OpsMix", spec := "opsMix", unfollowed := true, recurses := true, apart := false }
def OpsMixSaid : Prop := opsMixRow.holds Try.pinned (OpenSpec.ofChange opsMixSpec)

/-- ITS FALSE NEIGHBOUR: 'it returns false'. Refute it at one input. -/
def opsMixWrong : ChangeSpec := { name := "opsMix", fn := fun _ => fun
  | [d1, d2, d3] => { results := [.lit (.bool false)], args := [d1, d2, d3] }
  | _ => none }
def OpsMixWrongFalsely : Prop := opsMixRow.holds Try.pinned (OpenSpec.ofChange opsMixWrong)

/-- 'paintboxlaw24.OpsTurn': WHATEVER THE INPUT: true; the input reads as it did. -/
def opsTurnSpec : ChangeSpec := { name := "opsTurn", fn := fun _ => fun
  | [d1, d2, d3] => { results := [.lit (.bool true)], args := [d1, d2, d3] }
  | _ => none }
def opsTurnRow : OpenClaim := { program := "ytagjjgookiodbaa", sum := "7467737c5731b8a1ca2a67e2f472ee7e561a95d850734319798eb76d7d84c27f", func := "paintbox/paintboxlaw24.OpsTurn", spec := "opsTurn", unfollowed := true, recurses := true, apart := false }
def OpsTurnSaid : Prop := opsTurnRow.holds Try.pinned (OpenSpec.ofChange opsTurnSpec)

/-- ITS FALSE NEIGHBOUR: 'it returns false'. Refute it at one input. -/
def opsTurnWrong : ChangeSpec := { name := "opsTurn", fn := fun _ => fun
  | [d1, d2, d3] => { results := [.lit (.bool false)], args := [d1, d2, d3] }
  | _ => none }
def OpsTurnWrongFalsely : Prop := opsTurnRow.holds Try.pinned (OpenSpec.ofChange opsTurnWrong)

/-- 'paintboxlaw24.OpsNew': WHATEVER THE INPUT: true; the input reads as it did. -/
def opsNewSpec : ChangeSpec := { name := "opsNew", fn := fun _ => fun
  | [d] => { results := [.lit (.bool true)], args := [d] }
  | _ => none }
def opsNewRow : OpenClaim := { program := "ytagjjgookiodbaa", sum := "7467737c5731b8a1ca2a67e2f472ee7e561a95d850734319798eb76d7d84c27f", func := "paintbox/paintboxlaw24.OpsNew", spec := "opsNew", unfollowed := true, recurses := true, apart := false }
def OpsNewSaid : Prop := opsNewRow.holds Try.pinned (OpenSpec.ofChange opsNewSpec)

/-- ITS FALSE NEIGHBOUR: 'it returns false'. Refute it at one input. -/
def opsNewWrong : ChangeSpec := { name := "opsNew", fn := fun _ => fun
  | [d] => { results := [.lit (.bool false)], args := [d] }
  | _ => none }
def OpsNewWrongFalsely : Prop := opsNewRow.holds Try.pinned (OpenSpec.ofChange opsNewWrong)

/-- 'paintboxlaw24.OpsStays': WHATEVER THE INPUT: true; the input reads as it did. -/
def opsStaysSpec : ChangeSpec := { name := "opsStays", fn := fun _ => fun
  | [d1, d2, d3] => { results := [.lit (.bool true)], args := [d1, d2, d3] }
  | _ => none }
def opsStaysRow : OpenClaim := { program := "ytagjjgookiodbaa", sum := "7467737c5731b8a1ca2a67e2f472ee7e561a95d850734319798eb76d7d84c27f", func := "paintbox/paintboxlaw24.OpsStays", spec := "opsStays", unfollowed := true, recurses := true, apart := false }
def OpsStaysSaid : Prop := opsStaysRow.holds Try.pinned (OpenSpec.ofChange opsStaysSpec)

/-- ITS FALSE NEIGHBOUR: 'it returns false'. Refute it at one input. -/
def opsStaysWrong : ChangeSpec := { name := "opsStays", fn := fun _ => fun
  | [d1, d2, d3] => { results := [.lit (.bool false)], args := [d1, d2, d3] }
  | _ => none }
def OpsStaysWrongFalsely : Prop := opsStaysRow.holds Try.pinned (OpenSpec.ofChange opsStaysWrong)

/-- 'paintboxlaw24.OpsUnset': WHATEVER THE INPUT: true; the input reads as it did. -/
def opsUnsetSpec : ChangeSpec := { name := "opsUnset", fn := fun _ => fun
  | [d1, d2, d3] => { results := [.lit (.bool true)], args := [d1, d2, d3] }
  | _ => none }
def opsUnsetRow : OpenClaim := { program := "ytagjjgookiodbaa", sum := "7467737c5731b8a1ca2a67e2f472ee7e561a95d850734319798eb76d7d84c27f", func := "paintbox/paintboxlaw24.OpsUnset", spec := "opsUnset", unfollowed := true, recurses := true, apart := false }
def OpsUnsetSaid : Prop := opsUnsetRow.holds Try.pinned (OpenSpec.ofChange opsUnsetSpec)

/-- ITS FALSE NEIGHBOUR: 'it returns false'. Refute it at one input. -/
def opsUnsetWrong : ChangeSpec := { name := "opsUnset", fn := fun _ => fun
  | [d1, d2, d3] => { results := [.lit (.bool false)], args := [d1, d2, d3] }
  | _ => none }
def OpsUnsetWrongFalsely : Prop := opsUnsetRow.holds Try.pinned (OpenSpec.ofChange opsUnsetWrong)

/-- 'paintboxlaw24.OpsDepth': WHATEVER THE INPUT: true; the input reads as it did. -/
def opsDepthSpec : ChangeSpec := { name := "opsDepth", fn := fun _ => fun
  | [d1, d2, d3] => { results := [.lit (.bool true)], args := [d1, d2, d3] }
  | _ => none }
def opsDepthRow : OpenClaim := { program := "ytagjjgookiodbaa", sum := "7467737c5731b8a1ca2a67e2f472ee7e561a95d850734319798eb76d7d84c27f", func := "paintbox/paintboxlaw24.OpsDepth", spec := "opsDepth", unfollowed := true, recurses := true, apart := false }
def OpsDepthSaid : Prop := opsDepthRow.holds Try.pinned (OpenSpec.ofChange opsDepthSpec)

/-- ITS FALSE NEIGHBOUR: 'it returns false'. Refute it at one input. -/
def opsDepthWrong : ChangeSpec := { name := "opsDepth", fn := fun _ => fun
  | [d1, d2, d3] => { results := [.lit (.bool false)], args := [d1, d2, d3] }
  | _ => none }
def OpsDepthWrongFalsely : Prop := opsDepthRow.holds Try.pinned (OpenSpec.ofChange opsDepthWrong)

/- THE SECOND FORM. 'bulk': how many values and letters a reading holds, each counted each time it is reached (what is shared counts as often as it is met; a slice's spare places count too). A statement '..UptoSaid' is the law's where the arguments, and the package variables that the reading takes, are together of bulk at most 1048576: NARROWER than '..Said'. Prove '..Said' where nothing that the law and all that it calls make is longer than what came in: it says more and counts as full. Else prove '..UptoSaid'. A law counts once. -/
mutual
def uptoBulk {H : Type} : DataW H → Nat
  | .lit (.string bytes) => bytes.length + 1
  | .lit _ => 1
  | .nil => 1
  | .ptr d => uptoBulk d + 1
  | .slice elems spare => uptoBulkAll elems + uptoBulkAll spare + 1
  | .agg parts => uptoBulkAll parts + 1
  | .iface _ d => uptoBulk d + 1
  | .map entries => uptoBulkEntries entries + 1
  | .held _ => 1
def uptoBulkAll {H : Type} : List (DataW H) → Nat
  | [] => 0
  | d :: r => uptoBulk d + uptoBulkAll r
def uptoBulkEntries {H : Type} : List (Lit × DataW H) → Nat
  | [] => 0
  | x :: r => uptoBulkEntry x + uptoBulkEntries r
def uptoBulkEntry {H : Type} : Lit × DataW H → Nat
  | (.string bytes, d) => bytes.length + uptoBulk d + 1
  | (_, d) => uptoBulk d + 1
 end
def uptoSmall : (H : Type) → List (DataW H) → Bool := fun _ ds => decide (uptoBulkAll ds ≤ 1048576)
def OpenSpec.upto (s : _root_.Go.ChangeSpec) : _root_.Go.OpenSpec := { _root_.Go.OpenSpec.ofChange s with cond := some uptoSmall }

/-- 'paintboxlaw24.OpsApply', WHERE WHAT IT READS IS OF BULK AT MOST 1048576: true; the input reads as it did. -/
def opsApplyUptoRow : OpenClaim := { program := "ytagjjgookiodbaa", sum := "7467737c5731b8a1ca2a67e2f472ee7e561a95d850734319798eb76d7d84c27f", func := "paintbox/paintboxlaw24.OpsApply", spec := "opsApply", unfollowed := true, recurses := true, apart := false, narrowed := true }
def OpsApplyUptoSaid : Prop := opsApplyUptoRow.holds Try.pinned (OpenSpec.upto opsApplySpec)

/-- 'paintboxlaw24.OpsMix', WHERE WHAT IT READS IS OF BULK AT MOST 1048576: true; the input reads as it did. -/
def opsMixUptoRow : OpenClaim := { program := "ytagjjgookiodbaa", sum := "7467737c5731b8a1ca2a67e2f472ee7e561a95d850734319798eb76d7d84c27f", func := "paintbox/paintboxlaw24.OpsMix", spec := "opsMix", unfollowed := true, recurses := true, apart := false, narrowed := true }
def OpsMixUptoSaid : Prop := opsMixUptoRow.holds Try.pinned (OpenSpec.upto opsMixSpec)

/-- 'paintboxlaw24.OpsTurn', WHERE WHAT IT READS IS OF BULK AT MOST 1048576: true; the input reads as it did. -/
def opsTurnUptoRow : OpenClaim := { program := "ytagjjgookiodbaa", sum := "7467737c5731b8a1ca2a67e2f472ee7e561a95d850734319798eb76d7d84c27f", func := "paintbox/paintboxlaw24.OpsTurn", spec := "opsTurn", unfollowed := true, recurses := true, apart := false, narrowed := true }
def OpsTurnUptoSaid : Prop := opsTurnUptoRow.holds Try.pinned (OpenSpec.upto opsTurnSpec)

/-- 'paintboxlaw24.OpsNew', WHERE WHAT IT READS IS OF BULK AT MOST 1048576: true; the input reads as it did. -/
def opsNewUptoRow : OpenClaim := { program := "ytagjjgookiodbaa", sum := "7467737c5731b8a1ca2a67e2f472ee7e561a95d850734319798eb76d7d84c27f", func := "paintbox/paintboxlaw24.OpsNew", spec := "opsNew", unfollowed := true, recurses := true, apart := false, narrowed := true }
def OpsNewUptoSaid : Prop := opsNewUptoRow.holds Try.pinned (OpenSpec.upto opsNewSpec)

/-- 'paintboxlaw24.OpsStays', WHERE WHAT IT READS IS OF BULK AT MOST 1048576: true; the input reads as it did. -/
def opsStaysUptoRow : OpenClaim := { program := "ytagjjgookiodbaa", sum := "7467737c5731b8a1ca2a67e2f472ee7e561a95d850734319798eb76d7d84c27f", func := "paintbox/paintboxlaw24.OpsStays", spec := "opsStays", unfollowed := true, recurses := true, apart := false, narrowed := true }
def OpsStaysUptoSaid : Prop := opsStaysUptoRow.holds Try.pinned (OpenSpec.upto opsStaysSpec)

/-- 'paintboxlaw24.OpsUnset', WHERE WHAT IT READS IS OF BULK AT MOST 1048576: true; the input reads as it did. -/
def opsUnsetUptoRow : OpenClaim := { program := "ytagjjgookiodbaa", sum := "7467737c5731b8a1ca2a67e2f472ee7e561a95d850734319798eb76d7d84c27f", func := "paintbox/paintboxlaw24.OpsUnset", spec := "opsUnset", unfollowed := true, recurses := true, apart := false, narrowed := true }
def OpsUnsetUptoSaid : Prop := opsUnsetUptoRow.holds Try.pinned (OpenSpec.upto opsUnsetSpec)

/-- 'paintboxlaw24.OpsDepth', WHERE WHAT IT READS IS OF BULK AT MOST 1048576: true; the input reads as it did. -/
def opsDepthUptoRow : OpenClaim := { program := "ytagjjgookiodbaa", sum := "7467737c5731b8a1ca2a67e2f472ee7e561a95d850734319798eb76d7d84c27f", func := "paintbox/paintboxlaw24.OpsDepth", spec := "opsDepth", unfollowed := true, recurses := true, apart := false, narrowed := true }
def OpsDepthUptoSaid : Prop := opsDepthUptoRow.holds Try.pinned (OpenSpec.upto opsDepthSpec)

end Rows
end Go.Proofs.Ytagjjgookiodbaa
