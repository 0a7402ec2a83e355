/-
  No cell of these rows narrows 'for every input' (looked for: loops, veiled, ifaces, maps, wideKeys, modest, calm, conditions, laid).
  DERIVED. THE GIVEN ROWS OF THIS SEAT. 7 by the template 'for every input the law returns true; each argument reads behind the call as it read before'; 0 by the template 'total and deterministic' (their statements: YtgbcngmciabpkaaTotals.lean).
  GIVEN WITH THE SEED: the statements are not yours to turn. If you find one false, say at which input.
  Laid BY PROGRAM, IN A SANDBOX (cutbox-rows.mjs): the forced cells as the released guide's own fill.sh prints them over the translation 16b98c4f5f736e46… (all of the seat's roots in one cut). By AI agents, Wed Nov 11 2026. No macro, syntax, notation, axiom, sorry.
-/
import Derived.Test.YtgbcngmciabpkaaChecked
import GoSem.Claim
import GoSem.ClaimJoined
import GoSem.ClaimMapViews
import Derived.JoinedTies
import Derived.KernelRfl
namespace Go.Proofs.Ytgbcngmciabpkaa
/- THE CELL 'sum', in the pinned program and in every row, IS THE sha256 OF THE DUMP (.gsa) THAT YtgbcngmciabpkaaProg.lean LOADS. Nothing in Lean hashes anything: it is a label: what it is worth is what the hold of that sum in a sandbox is worth. -/
noncomputable def Try.pinned : Pinned := { name := "ytgbcngmciabpkaa", sum := "16b98c4f5f736e46a2733aa98d341b07136418d5a46f16a0a0fea0dadc1ce392", checked := Try.checked }
namespace Rows
def none {H : Type} : Left H := { results := [], args := [] }

/-- 'paintboxlaw20.FetchVertex': WHATEVER THE INPUT: true; the input reads as it did. -/
def fetchVertexSpec : ChangeSpec := { name := "fetchVertex", fn := fun _ => fun
  | [d1, d2, d3] => { results := [.lit (.bool true)], args := [d1, d2, d3] }
  | _ => none }
def fetchVertexRow : OpenClaim := { program := "ytgbcngmciabpkaa", sum := "16b98c4f5f736e46a2733aa98d341b07136418d5a46f16a0a0fea0dadc1ce392", func := "paintbox/paintboxlaw20.FetchVertex", spec := "fetchVertex", unfollowed := true, recurses := true, apart := false }
def FetchVertexSaid : Prop := fetchVertexRow.holds Try.pinned (OpenSpec.ofChange fetchVertexSpec)

/-- ITS FALSE NEIGHBOUR: 'it returns false'. Refute it at one input. -/
def fetchVertexWrong : ChangeSpec := { name := "fetchVertex", fn := fun _ => fun
  | [d1, d2, d3] => { results := [.lit (.bool false)], args := [d1, d2, d3] }
  | _ => none }
def FetchVertexWrongFalsely : Prop := fetchVertexRow.holds Try.pinned (OpenSpec.ofChange fetchVertexWrong)

/-- 'paintboxlaw20.FetchNumbers': WHATEVER THE INPUT: true; the input reads as it did. -/
def fetchNumbersSpec : ChangeSpec := { name := "fetchNumbers", fn := fun _ => fun
  | [d1, d2, d3] => { results := [.lit (.bool true)], args := [d1, d2, d3] }
  | _ => none }
def fetchNumbersRow : OpenClaim := { program := "ytgbcngmciabpkaa", sum := "16b98c4f5f736e46a2733aa98d341b07136418d5a46f16a0a0fea0dadc1ce392", func := "paintbox/paintboxlaw20.FetchNumbers", spec := "fetchNumbers", unfollowed := true, recurses := true, apart := false }
def FetchNumbersSaid : Prop := fetchNumbersRow.holds Try.pinned (OpenSpec.ofChange fetchNumbersSpec)

/-- ITS FALSE NEIGHBOUR: 'it returns false'. Refute it at one input. -/
def fetchNumbersWrong : ChangeSpec := { name := "fetchNumbers", fn := fun _ => fun
  | [d1, d2, d3] => { results := [.lit (.bool false)], args := [d1, d2, d3] }
  | _ => none }
def FetchNumbersWrongFalsely : Prop := fetchNumbersRow.holds Try.pinned (OpenSpec.ofChange fetchNumbersWrong)

/-- 'paintboxlaw20.FetchPrims': WHATEVER THE INPUT: true; the input reads as it did. -/
def fetchPrimsSpec : ChangeSpec := { name := "fetchPrims", fn := fun _ => fun
  | [d1, d2] => { results := [.lit (.bool true)], args := [d1, d2] }
  | _ => none }
def fetchPrimsRow : OpenClaim := { program := "ytgbcngmciabpkaa", sum := "16b98c4f5f736e46a2733aa98d341b07136418d5a46f16a0a0fea0dadc1ce392", func := "paintbox/paintboxlaw20.FetchPrims", spec := "fetchPrims", unfollowed := true, recurses := true, apart := false }
def FetchPrimsSaid : Prop := fetchPrimsRow.holds Try.pinned (OpenSpec.ofChange fetchPrimsSpec)

/-- ITS FALSE NEIGHBOUR: 'it returns false'. Refute it at one input. -/
def fetchPrimsWrong : ChangeSpec := { name := "fetchPrims", fn := fun _ => fun
  | [d1, d2] => { results := [.lit (.bool false)], args := [d1, d2] }
  | _ => none }
def FetchPrimsWrongFalsely : Prop := fetchPrimsRow.holds Try.pinned (OpenSpec.ofChange fetchPrimsWrong)

/-- 'paintboxlaw20.FetchUnits': WHATEVER THE INPUT: true; the input reads as it did. -/
def fetchUnitsSpec : ChangeSpec := { name := "fetchUnits", fn := fun _ => fun
  | [d1, d2, d3] => { results := [.lit (.bool true)], args := [d1, d2, d3] }
  | _ => none }
def fetchUnitsRow : OpenClaim := { program := "ytgbcngmciabpkaa", sum := "16b98c4f5f736e46a2733aa98d341b07136418d5a46f16a0a0fea0dadc1ce392", func := "paintbox/paintboxlaw20.FetchUnits", spec := "fetchUnits", unfollowed := true, recurses := true, apart := false }
def FetchUnitsSaid : Prop := fetchUnitsRow.holds Try.pinned (OpenSpec.ofChange fetchUnitsSpec)

/-- ITS FALSE NEIGHBOUR: 'it returns false'. Refute it at one input. -/
def fetchUnitsWrong : ChangeSpec := { name := "fetchUnits", fn := fun _ => fun
  | [d1, d2, d3] => { results := [.lit (.bool false)], args := [d1, d2, d3] }
  | _ => none }
def FetchUnitsWrongFalsely : Prop := fetchUnitsRow.holds Try.pinned (OpenSpec.ofChange fetchUnitsWrong)

/-- 'paintboxlaw20.FetchCounts': WHATEVER THE INPUT: true; the input reads as it did. -/
def fetchCountsSpec : ChangeSpec := { name := "fetchCounts", fn := fun _ => fun
  | [d1, d2] => { results := [.lit (.bool true)], args := [d1, d2] }
  | _ => none }
def fetchCountsRow : OpenClaim := { program := "ytgbcngmciabpkaa", sum := "16b98c4f5f736e46a2733aa98d341b07136418d5a46f16a0a0fea0dadc1ce392", func := "paintbox/paintboxlaw20.FetchCounts", spec := "fetchCounts", unfollowed := true, recurses := true, apart := false }
def FetchCountsSaid : Prop := fetchCountsRow.holds Try.pinned (OpenSpec.ofChange fetchCountsSpec)

/-- ITS FALSE NEIGHBOUR: 'it returns false'. Refute it at one input. -/
def fetchCountsWrong : ChangeSpec := { name := "fetchCounts", fn := fun _ => fun
  | [d1, d2] => { results := [.lit (.bool false)], args := [d1, d2] }
  | _ => none }
def FetchCountsWrongFalsely : Prop := fetchCountsRow.holds Try.pinned (OpenSpec.ofChange fetchCountsWrong)

/-- 'paintboxlaw20.FetchOne': WHATEVER THE INPUT: true; the input reads as it did. -/
def fetchOneSpec : ChangeSpec := { name := "fetchOne", fn := fun _ => fun
  | [d1, d2] => { results := [.lit (.bool true)], args := [d1, d2] }
  | _ => none }
def fetchOneRow : OpenClaim := { program := "ytgbcngmciabpkaa", sum := "16b98c4f5f736e46a2733aa98d341b07136418d5a46f16a0a0fea0dadc1ce392", func := "paintbox/paintboxlaw20.FetchOne", spec := "fetchOne", unfollowed := true, recurses := true, apart := false }
def FetchOneSaid : Prop := fetchOneRow.holds Try.pinned (OpenSpec.ofChange fetchOneSpec)

/-- ITS FALSE NEIGHBOUR: 'it returns false'. Refute it at one input. -/
def fetchOneWrong : ChangeSpec := { name := "fetchOne", fn := fun _ => fun
  | [d1, d2] => { results := [.lit (.bool false)], args := [d1, d2] }
  | _ => none }
def FetchOneWrongFalsely : Prop := fetchOneRow.holds Try.pinned (OpenSpec.ofChange fetchOneWrong)

/-- 'paintboxlaw20.FetchRows': WHATEVER THE INPUT: true; the input reads as it did. -/
def fetchRowsSpec : ChangeSpec := { name := "fetchRows", fn := fun _ => fun
  | [d1, d2] => { results := [.lit (.bool true)], args := [d1, d2] }
  | _ => none }
def fetchRowsRow : OpenClaim := { program := "ytgbcngmciabpkaa", sum := "16b98c4f5f736e46a2733aa98d341b07136418d5a46f16a0a0fea0dadc1ce392", func := "paintbox/paintboxlaw20.FetchRows", spec := "fetchRows", unfollowed := true, recurses := true, apart := false }
def FetchRowsSaid : Prop := fetchRowsRow.holds Try.pinned (OpenSpec.ofChange fetchRowsSpec)

/-- ITS FALSE NEIGHBOUR: 'it returns false'. Refute it at one input. -/
def fetchRowsWrong : ChangeSpec := { name := "fetchRows", fn := fun _ => fun
  | [d1, d2] => { results := [.lit (.bool false)], args := [d1, d2] }
  | _ => none }
def FetchRowsWrongFalsely : Prop := fetchRowsRow.holds Try.pinned (OpenSpec.ofChange fetchRowsWrong)

/- THE SECOND FORM. 'bulk': how many values and letters a reading holds, each counted each time it is reached (what is shared counts as often as it is met; a slice's spare places count too). A statement '..UptoSaid' is the law's where the arguments, and the package variables that the reading takes, are together of bulk at most 1048576: NARROWER than '..Said'. Prove '..Said' where nothing that the law and all that it calls make is longer than what came in: it says more and counts as full. Else prove '..UptoSaid'. A law counts once. -/
mutual
def uptoBulk {H : Type} : DataW H → Nat
  | .lit (.string bytes) => bytes.length + 1
  | .lit _ => 1
  | .nil => 1
  | .ptr d => uptoBulk d + 1
  | .slice elems spare => uptoBulkAll elems + uptoBulkAll spare + 1
  | .agg parts => uptoBulkAll parts + 1
  | .iface _ d => uptoBulk d + 1
  | .map entries => uptoBulkEntries entries + 1
  | .held _ => 1
def uptoBulkAll {H : Type} : List (DataW H) → Nat
  | [] => 0
  | d :: r => uptoBulk d + uptoBulkAll r
def uptoBulkEntries {H : Type} : List (Lit × DataW H) → Nat
  | [] => 0
  | x :: r => uptoBulkEntry x + uptoBulkEntries r
def uptoBulkEntry {H : Type} : Lit × DataW H → Nat
  | (.string bytes, d) => bytes.length + uptoBulk d + 1
  | (_, d) => uptoBulk d + 1
 end
def uptoSmall : (H : Type) → List (DataW H) → Bool := fun _ ds => decide (uptoBulkAll ds ≤ 1048576)
def OpenSpec.upto (s : _root_.Go.ChangeSpec) : _root_.Go.OpenSpec := { _root_.Go.OpenSpec.ofChange s with cond := some uptoSmall }

/-- 'paintboxlaw20.FetchVertex', WHERE WHAT IT READS IS OF BULK AT MOST 1048576: true; the input reads as it did. -/
def fetchVertexUptoRow : OpenClaim := { program := "ytgbcngmciabpkaa", sum := "16b98c4f5f736e46a2733aa98d341b07136418d5a46f16a0a0fea0dadc1ce392", func := "paintbox/paintboxlaw20.FetchVertex", spec := "fetchVertex", unfollowed := true, recurses := true, apart := false, narrowed := true }
def FetchVertexUptoSaid : Prop := fetchVertexUptoRow.holds Try.pinned (OpenSpec.upto fetchVertexSpec)

/-- 'paintboxlaw20.FetchNumbers', WHERE WHAT IT READS IS OF BULK AT MOST 1048576: true; the input reads as it did. -/
def fetchNumbersUptoRow : OpenClaim := { program := "ytgbcngmciabpkaa", sum := "16b98c4f5f736e46a2733aa98d341b07136418d5a46f16a0a0fea0dadc1ce392", func := "paintbox/paintboxlaw20.FetchNumbers", spec := "fetchNumbers", unfollowed := true, recurses := true, apart := false, narrowed := true }
def FetchNumbersUptoSaid : Prop := fetchNumbersUptoRow.holds Try.pinned (OpenSpec.upto fetchNumbersSpec)

/-- 'paintboxlaw20.FetchPrims', WHERE WHAT IT READS IS OF BULK AT MOST 1048576: true; the input reads as it did. -/
def fetchPrimsUptoRow : OpenClaim := { program := "ytgbcngmciabpkaa", sum := "16b98c4f5f736e46a2733aa98d341b07136418d5a46f16a0a0fea0dadc1ce392", func := "paintbox/paintboxlaw20.FetchPrims", spec := "fetchPrims", unfollowed := true, recurses := true, apart := false, narrowed := true }
def FetchPrimsUptoSaid : Prop := fetchPrimsUptoRow.holds Try.pinned (OpenSpec.upto fetchPrimsSpec)

/-- 'paintboxlaw20.FetchUnits', WHERE WHAT IT READS IS OF BULK AT MOST 1048576: true; the input reads as it did. -/
def fetchUnitsUptoRow : OpenClaim := { program := "ytgbcngmciabpkaa", sum := "16b98c4f5f736e46a2733aa98d341b07136418d5a46f16a0a0fea0dadc1ce392", func := "paintbox/paintboxlaw20.FetchUnits", spec := "fetchUnits", unfollowed := true, recurses := true, apart := false, narrowed := true }
def FetchUnitsUptoSaid : Prop := fetchUnitsUptoRow.holds Try.pinned (OpenSpec.upto fetchUnitsSpec)

/-- 'paintboxlaw20.FetchCounts', WHERE WHAT IT READS IS OF BULK AT MOST 1048576: true; the input reads as it did. -/
def fetchCountsUptoRow : OpenClaim := { program := "ytgbcngmciabpkaa", sum := "16b98c4f5f736e46a2733aa98d341b07136418d5a46f16a0a0fea0dadc1ce392", func := "paintbox/paintboxlaw20.FetchCounts", spec := "fetchCounts", unfollowed := true, recurses := true, apart := false, narrowed := true }
def FetchCountsUptoSaid : Prop := fetchCountsUptoRow.holds Try.pinned (OpenSpec.upto fetchCountsSpec)

/-- 'paintboxlaw20.FetchOne', WHERE WHAT IT READS IS OF BULK AT MOST 1048576: true; the input reads as it did. -/
def fetchOneUptoRow : OpenClaim := { program := "ytgbcngmciabpkaa", sum := "16b98c4f5f736e46a2733aa98d341b07136418d5a46f16a0a0fea0dadc1ce392", func := "paintbox/paintboxlaw20.FetchOne", spec := "fetchOne", unfollowed := true, recurses := true, apart := false, narrowed := true }
def FetchOneUptoSaid : Prop := fetchOneUptoRow.holds Try.pinned (OpenSpec.upto fetchOneSpec)

/-- 'paintboxlaw20.FetchRows', WHERE WHAT IT READS IS OF BULK AT MOST 1048576: true; the input reads as it did. -/
def fetchRowsUptoRow : OpenClaim := { program := "ytgbcngmciabpkaa", sum := "16b98c4f5f736e46a2733aa98d341b07136418d5a46f16a0a0fea0dadc1ce392", func := "paintbox/paintboxlaw20.FetchRows", spec := "fetchRows", unfollowed := true, recurses := true, apart := false, narrowed := true }
def FetchRowsUptoSaid : Prop := fetchRowsUptoRow.holds Try.pinned (OpenSpec.upto fetchRowsSpec)

end Rows
end Go.Proofs.Ytgbcngmciabpkaa
