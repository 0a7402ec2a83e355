/-
  No cell of these rows narrows 'for every input' (looked for: loops, veiled, ifaces, maps, wideKeys, modest, calm, conditions, laid).
  DERIVED. THE GIVEN ROWS OF THIS SEAT. 5 by the template 'for every input the law returns true; each argument reads behind the call as it read before'; 0 by the template 'total and deterministic' (their statements: YtdomijfkpbganaaTotals.lean).
  GIVEN WITH THE SEED: the statements are not yours to turn. If you find one false, say at which input.
  Laid BY PROGRAM, IN A SANDBOX (cutbox-rows.mjs): the forced cells as the released guide's own fill.sh prints them over the translation 049a34297558f289… (all of the seat's roots in one cut). By AI agents, Wed Nov 11 2026. No macro, syntax, notation, axiom, sorry.
-/
import Derived.Test.YtdomijfkpbganaaChecked
import GoSem.Claim
import GoSem.ClaimJoined
import GoSem.ClaimMapViews
import Derived.JoinedTies
import Derived.KernelRfl
namespace Go.Proofs.Ytdomijfkpbganaa
/- THE CELL 'sum', in the pinned program and in every row, IS THE sha256 OF THE DUMP (.gsa) THAT YtdomijfkpbganaaProg.lean LOADS. Nothing in Lean hashes anything: it is a label: what it is worth is what the hold of that sum in a sandbox is worth. -/
noncomputable def Try.pinned : Pinned := { name := "ytdomijfkpbganaa", sum := "049a34297558f28940d2cc143f8b9eb247f15a6002472467ea6519edc03e7b2f", checked := Try.checked }
namespace Rows
def none {H : Type} : Left H := { results := [], args := [] }

/-- 'paintboxlaw06.NamesLeast': WHATEVER THE INPUT: true; the input reads as it did. -/
def namesLeastSpec : ChangeSpec := { name := "namesLeast", fn := fun _ => fun
  | [d1, d2] => { results := [.lit (.bool true)], args := [d1, d2] }
  | _ => none }
def namesLeastRow : OpenClaim := { program := "ytdomijfkpbganaa", sum := "049a34297558f28940d2cc143f8b9eb247f15a6002472467ea6519edc03e7b2f", func := "paintbox/paintboxlaw06.NamesLeast", spec := "namesLeast", apart := false }
def NamesLeastSaid : Prop := namesLeastRow.holds Try.pinned (OpenSpec.ofChange namesLeastSpec)

/-- ITS FALSE NEIGHBOUR: 'it returns false'. Refute it at one input. -/
def namesLeastWrong : ChangeSpec := { name := "namesLeast", fn := fun _ => fun
  | [d1, d2] => { results := [.lit (.bool false)], args := [d1, d2] }
  | _ => none }
def NamesLeastWrongFalsely : Prop := namesLeastRow.holds Try.pinned (OpenSpec.ofChange namesLeastWrong)

/-- 'paintboxlaw06.NamesBind': WHATEVER THE INPUT: true; the input reads as it did. -/
def namesBindSpec : ChangeSpec := { name := "namesBind", fn := fun _ => fun
  | [d] => { results := [.lit (.bool true)], args := [d] }
  | _ => none }
def namesBindRow : OpenClaim := { program := "ytdomijfkpbganaa", sum := "049a34297558f28940d2cc143f8b9eb247f15a6002472467ea6519edc03e7b2f", func := "paintbox/paintboxlaw06.NamesBind", spec := "namesBind", apart := false }
def NamesBindSaid : Prop := namesBindRow.holds Try.pinned (OpenSpec.ofChange namesBindSpec)

/-- ITS FALSE NEIGHBOUR: 'it returns false'. Refute it at one input. -/
def namesBindWrong : ChangeSpec := { name := "namesBind", fn := fun _ => fun
  | [d] => { results := [.lit (.bool false)], args := [d] }
  | _ => none }
def NamesBindWrongFalsely : Prop := namesBindRow.holds Try.pinned (OpenSpec.ofChange namesBindWrong)

/-- 'paintboxlaw06.NamesCopy': WHATEVER THE INPUT: true; the input reads as it did. -/
def namesCopySpec : ChangeSpec := { name := "namesCopy", fn := fun _ => fun
  | [d1, d2, d3] => { results := [.lit (.bool true)], args := [d1, d2, d3] }
  | _ => none }
def namesCopyRow : OpenClaim := { program := "ytdomijfkpbganaa", sum := "049a34297558f28940d2cc143f8b9eb247f15a6002472467ea6519edc03e7b2f", func := "paintbox/paintboxlaw06.NamesCopy", spec := "namesCopy", apart := false }
def NamesCopySaid : Prop := namesCopyRow.holds Try.pinned (OpenSpec.ofChange namesCopySpec)

/-- ITS FALSE NEIGHBOUR: 'it returns false'. Refute it at one input. -/
def namesCopyWrong : ChangeSpec := { name := "namesCopy", fn := fun _ => fun
  | [d1, d2, d3] => { results := [.lit (.bool false)], args := [d1, d2, d3] }
  | _ => none }
def NamesCopyWrongFalsely : Prop := namesCopyRow.holds Try.pinned (OpenSpec.ofChange namesCopyWrong)

/-- 'paintboxlaw06.NamesDo': WHATEVER THE INPUT: true; the input reads as it did. -/
def namesDoSpec : ChangeSpec := { name := "namesDo", fn := fun _ => fun
  | [d] => { results := [.lit (.bool true)], args := [d] }
  | _ => none }
def namesDoRow : OpenClaim := { program := "ytdomijfkpbganaa", sum := "049a34297558f28940d2cc143f8b9eb247f15a6002472467ea6519edc03e7b2f", func := "paintbox/paintboxlaw06.NamesDo", spec := "namesDo", unfollowed := true, recurses := true, apart := false }
def NamesDoSaid : Prop := namesDoRow.holds Try.pinned (OpenSpec.ofChange namesDoSpec)

/-- ITS FALSE NEIGHBOUR: 'it returns false'. Refute it at one input. -/
def namesDoWrong : ChangeSpec := { name := "namesDo", fn := fun _ => fun
  | [d] => { results := [.lit (.bool false)], args := [d] }
  | _ => none }
def NamesDoWrongFalsely : Prop := namesDoRow.holds Try.pinned (OpenSpec.ofChange namesDoWrong)

/-- 'paintboxlaw06.NamesNone': WHATEVER THE INPUT: true; the input reads as it did. -/
def namesNoneSpec : ChangeSpec := { name := "namesNone", fn := fun _ => fun
  | [d] => { results := [.lit (.bool true)], args := [d] }
  | _ => none }
def namesNoneRow : OpenClaim := { program := "ytdomijfkpbganaa", sum := "049a34297558f28940d2cc143f8b9eb247f15a6002472467ea6519edc03e7b2f", func := "paintbox/paintboxlaw06.NamesNone", spec := "namesNone", unfollowed := true, recurses := true, apart := false }
def NamesNoneSaid : Prop := namesNoneRow.holds Try.pinned (OpenSpec.ofChange namesNoneSpec)

/-- ITS FALSE NEIGHBOUR: 'it returns false'. Refute it at one input. -/
def namesNoneWrong : ChangeSpec := { name := "namesNone", fn := fun _ => fun
  | [d] => { results := [.lit (.bool false)], args := [d] }
  | _ => none }
def NamesNoneWrongFalsely : Prop := namesNoneRow.holds Try.pinned (OpenSpec.ofChange namesNoneWrong)

/- THE SECOND FORM. 'bulk': how many values and letters a reading holds, each counted each time it is reached (what is shared counts as often as it is met; a slice's spare places count too). A statement '..UptoSaid' is the law's where the arguments, and the package variables that the reading takes, are together of bulk at most 1048576: NARROWER than '..Said'. Prove '..Said' where nothing that the law and all that it calls make is longer than what came in: it says more and counts as full. Else prove '..UptoSaid'. A law counts once. -/
mutual
def uptoBulk {H : Type} : DataW H → Nat
  | .lit (.string bytes) => bytes.length + 1
  | .lit _ => 1
  | .nil => 1
  | .ptr d => uptoBulk d + 1
  | .slice elems spare => uptoBulkAll elems + uptoBulkAll spare + 1
  | .agg parts => uptoBulkAll parts + 1
  | .iface _ d => uptoBulk d + 1
  | .map entries => uptoBulkEntries entries + 1
  | .held _ => 1
def uptoBulkAll {H : Type} : List (DataW H) → Nat
  | [] => 0
  | d :: r => uptoBulk d + uptoBulkAll r
def uptoBulkEntries {H : Type} : List (Lit × DataW H) → Nat
  | [] => 0
  | x :: r => uptoBulkEntry x + uptoBulkEntries r
def uptoBulkEntry {H : Type} : Lit × DataW H → Nat
  | (.string bytes, d) => bytes.length + uptoBulk d + 1
  | (_, d) => uptoBulk d + 1
 end
def uptoSmall : (H : Type) → List (DataW H) → Bool := fun _ ds => decide (uptoBulkAll ds ≤ 1048576)
def OpenSpec.upto (s : _root_.Go.ChangeSpec) : _root_.Go.OpenSpec := { _root_.Go.OpenSpec.ofChange s with cond := some uptoSmall }

/-- 'paintboxlaw06.NamesLeast', WHERE WHAT IT READS IS OF BULK AT MOST 1048576: true; the input reads as it did. -/
def namesLeastUptoRow : OpenClaim := { program := "ytdomijfkpbganaa", sum := "049a34297558f28940d2cc143f8b9eb247f15a6002472467ea6519edc03e7b2f", func := "paintbox/paintboxlaw06.NamesLeast", spec := "namesLeast", apart := false, narrowed := true }
def NamesLeastUptoSaid : Prop := namesLeastUptoRow.holds Try.pinned (OpenSpec.upto namesLeastSpec)

/-- 'paintboxlaw06.NamesBind', WHERE WHAT IT READS IS OF BULK AT MOST 1048576: true; the input reads as it did. -/
def namesBindUptoRow : OpenClaim := { program := "ytdomijfkpbganaa", sum := "049a34297558f28940d2cc143f8b9eb247f15a6002472467ea6519edc03e7b2f", func := "paintbox/paintboxlaw06.NamesBind", spec := "namesBind", apart := false, narrowed := true }
def NamesBindUptoSaid : Prop := namesBindUptoRow.holds Try.pinned (OpenSpec.upto namesBindSpec)

/-- 'paintboxlaw06.NamesCopy', WHERE WHAT IT READS IS OF BULK AT MOST 1048576: true; the input reads as it did. -/
def namesCopyUptoRow : OpenClaim := { program := "ytdomijfkpbganaa", sum := "049a34297558f28940d2cc143f8b9eb247f15a6002472467ea6519edc03e7b2f", func := "paintbox/paintboxlaw06.NamesCopy", spec := "namesCopy", apart := false, narrowed := true }
def NamesCopyUptoSaid : Prop := namesCopyUptoRow.holds Try.pinned (OpenSpec.upto namesCopySpec)

/-- 'paintboxlaw06.NamesDo', WHERE WHAT IT READS IS OF BULK AT MOST 1048576: true; the input reads as it did. -/
def namesDoUptoRow : OpenClaim := { program := "ytdomijfkpbganaa", sum := "049a34297558f28940d2cc143f8b9eb247f15a6002472467ea6519edc03e7b2f", func := "paintbox/paintboxlaw06.NamesDo", spec := "namesDo", unfollowed := true, recurses := true, apart := false, narrowed := true }
def NamesDoUptoSaid : Prop := namesDoUptoRow.holds Try.pinned (OpenSpec.upto namesDoSpec)

/-- 'paintboxlaw06.NamesNone', WHERE WHAT IT READS IS OF BULK AT MOST 1048576: true; the input reads as it did. -/
def namesNoneUptoRow : OpenClaim := { program := "ytdomijfkpbganaa", sum := "049a34297558f28940d2cc143f8b9eb247f15a6002472467ea6519edc03e7b2f", func := "paintbox/paintboxlaw06.NamesNone", spec := "namesNone", unfollowed := true, recurses := true, apart := false, narrowed := true }
def NamesNoneUptoSaid : Prop := namesNoneUptoRow.holds Try.pinned (OpenSpec.upto namesNoneSpec)

end Rows
end Go.Proofs.Ytdomijfkpbganaa
