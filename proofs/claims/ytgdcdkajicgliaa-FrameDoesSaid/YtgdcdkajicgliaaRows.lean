/-
  No cell of these rows narrows 'for every input' (looked for: loops, veiled, ifaces, maps, wideKeys, modest, calm, conditions, laid).
  DERIVED. THE GIVEN ROWS OF THIS SEAT. 8 by the template 'for every input the law returns true; each argument reads behind the call as it read before'; 0 by the template 'total and deterministic' (their statements: YtgdcdkajicgliaaTotals.lean).
  GIVEN WITH THE SEED: the statements are not yours to turn. If you find one false, say at which input.
  Laid BY PROGRAM, IN A SANDBOX (cutbox-rows.mjs): the forced cells as the released guide's own fill.sh prints them over the translation 3ec5008250c3f52d… (all of the seat's roots in one cut). By AI agents, Wed Nov 11 2026. No macro, syntax, notation, axiom, sorry.
-/
import Derived.Test.YtgdcdkajicgliaaChecked
import GoSem.Claim
import GoSem.ClaimJoined
import GoSem.ClaimMapViews
import Derived.JoinedTies
import Derived.KernelRfl
namespace Go.Proofs.Ytgdcdkajicgliaa
/- THE CELL 'sum', in the pinned program and in every row, IS THE sha256 OF THE DUMP (.gsa) THAT YtgdcdkajicgliaaProg.lean LOADS. Nothing in Lean hashes anything: it is a label: what it is worth is what the hold of that sum in a sandbox is worth. -/
noncomputable def Try.pinned : Pinned := { name := "ytgdcdkajicgliaa", sum := "3ec5008250c3f52d52ed9fddb887c525c28c0b397bac172049ea03385885c341", checked := Try.checked }
namespace Rows
def none {H : Type} : Left H := { results := [], args := [] }

/-- 'paintboxlaw25.FrameClears': WHATEVER THE INPUT: true; the input reads as it did. -/
def frameClearsSpec : ChangeSpec := { name := "frameClears", fn := fun _ => fun
  | [d1, d2, d3] => { results := [.lit (.bool true)], args := [d1, d2, d3] }
  | _ => none }
def frameClearsRow : OpenClaim := { program := "ytgdcdkajicgliaa", sum := "3ec5008250c3f52d52ed9fddb887c525c28c0b397bac172049ea03385885c341", func := "paintbox/paintboxlaw25.FrameClears", spec := "frameClears", unfollowed := true, recurses := true, apart := false }
def FrameClearsSaid : Prop := frameClearsRow.holds Try.pinned (OpenSpec.ofChange frameClearsSpec)

/-- ITS FALSE NEIGHBOUR: 'it returns false'. Refute it at one input. -/
def frameClearsWrong : ChangeSpec := { name := "frameClears", fn := fun _ => fun
  | [d1, d2, d3] => { results := [.lit (.bool false)], args := [d1, d2, d3] }
  | _ => none }
def FrameClearsWrongFalsely : Prop := frameClearsRow.holds Try.pinned (OpenSpec.ofChange frameClearsWrong)

/-- 'paintboxlaw25.FrameKeeps': WHATEVER THE INPUT: true; the input reads as it did. -/
def frameKeepsSpec : ChangeSpec := { name := "frameKeeps", fn := fun _ => fun
  | [d1, d2] => { results := [.lit (.bool true)], args := [d1, d2] }
  | _ => none }
def frameKeepsRow : OpenClaim := { program := "ytgdcdkajicgliaa", sum := "3ec5008250c3f52d52ed9fddb887c525c28c0b397bac172049ea03385885c341", func := "paintbox/paintboxlaw25.FrameKeeps", spec := "frameKeeps", unfollowed := true, recurses := true, apart := false }
def FrameKeepsSaid : Prop := frameKeepsRow.holds Try.pinned (OpenSpec.ofChange frameKeepsSpec)

/-- ITS FALSE NEIGHBOUR: 'it returns false'. Refute it at one input. -/
def frameKeepsWrong : ChangeSpec := { name := "frameKeeps", fn := fun _ => fun
  | [d1, d2] => { results := [.lit (.bool false)], args := [d1, d2] }
  | _ => none }
def FrameKeepsWrongFalsely : Prop := frameKeepsRow.holds Try.pinned (OpenSpec.ofChange frameKeepsWrong)

/-- 'paintboxlaw25.FrameNone': WHATEVER THE INPUT: true; the input reads as it did. -/
def frameNoneSpec : ChangeSpec := { name := "frameNone", fn := fun _ => fun
  | [d] => { results := [.lit (.bool true)], args := [d] }
  | _ => none }
def frameNoneRow : OpenClaim := { program := "ytgdcdkajicgliaa", sum := "3ec5008250c3f52d52ed9fddb887c525c28c0b397bac172049ea03385885c341", func := "paintbox/paintboxlaw25.FrameNone", spec := "frameNone", unfollowed := true, recurses := true, apart := false }
def FrameNoneSaid : Prop := frameNoneRow.holds Try.pinned (OpenSpec.ofChange frameNoneSpec)

/-- ITS FALSE NEIGHBOUR: 'it returns false'. Refute it at one input. -/
def frameNoneWrong : ChangeSpec := { name := "frameNone", fn := fun _ => fun
  | [d] => { results := [.lit (.bool false)], args := [d] }
  | _ => none }
def FrameNoneWrongFalsely : Prop := frameNoneRow.holds Try.pinned (OpenSpec.ofChange frameNoneWrong)

/-- 'paintboxlaw25.FrameDoes': WHATEVER THE INPUT: true; the input reads as it did. -/
def frameDoesSpec : ChangeSpec := { name := "frameDoes", fn := fun _ => fun
  | [d1, d2] => { results := [.lit (.bool true)], args := [d1, d2] }
  | _ => none }
def frameDoesRow : OpenClaim := { program := "ytgdcdkajicgliaa", sum := "3ec5008250c3f52d52ed9fddb887c525c28c0b397bac172049ea03385885c341", func := "paintbox/paintboxlaw25.FrameDoes", spec := "frameDoes", unfollowed := true, recurses := true, apart := false }
def FrameDoesSaid : Prop := frameDoesRow.holds Try.pinned (OpenSpec.ofChange frameDoesSpec)

/-- ITS FALSE NEIGHBOUR: 'it returns false'. Refute it at one input. -/
def frameDoesWrong : ChangeSpec := { name := "frameDoes", fn := fun _ => fun
  | [d1, d2] => { results := [.lit (.bool false)], args := [d1, d2] }
  | _ => none }
def FrameDoesWrongFalsely : Prop := frameDoesRow.holds Try.pinned (OpenSpec.ofChange frameDoesWrong)

/-- 'paintboxlaw26.BinsApart': WHATEVER THE INPUT: true; the input reads as it did. -/
def binsApartSpec : ChangeSpec := { name := "binsApart", fn := fun _ => fun
  | [d1, d2, d3] => { results := [.lit (.bool true)], args := [d1, d2, d3] }
  | _ => none }
def binsApartRow : OpenClaim := { program := "ytgdcdkajicgliaa", sum := "3ec5008250c3f52d52ed9fddb887c525c28c0b397bac172049ea03385885c341", func := "paintbox/paintboxlaw26.BinsApart", spec := "binsApart", unfollowed := true, recurses := true, apart := false }
def BinsApartSaid : Prop := binsApartRow.holds Try.pinned (OpenSpec.ofChange binsApartSpec)

/-- ITS FALSE NEIGHBOUR: 'it returns false'. Refute it at one input. -/
def binsApartWrong : ChangeSpec := { name := "binsApart", fn := fun _ => fun
  | [d1, d2, d3] => { results := [.lit (.bool false)], args := [d1, d2, d3] }
  | _ => none }
def BinsApartWrongFalsely : Prop := binsApartRow.holds Try.pinned (OpenSpec.ofChange binsApartWrong)

/-- 'paintboxlaw26.BinsAny': WHATEVER THE INPUT: true; the input reads as it did. -/
def binsAnySpec : ChangeSpec := { name := "binsAny", fn := fun _ => fun
  | [d1, d2] => { results := [.lit (.bool true)], args := [d1, d2] }
  | _ => none }
def binsAnyRow : OpenClaim := { program := "ytgdcdkajicgliaa", sum := "3ec5008250c3f52d52ed9fddb887c525c28c0b397bac172049ea03385885c341", func := "paintbox/paintboxlaw26.BinsAny", spec := "binsAny", unfollowed := true, recurses := true, apart := false }
def BinsAnySaid : Prop := binsAnyRow.holds Try.pinned (OpenSpec.ofChange binsAnySpec)

/-- ITS FALSE NEIGHBOUR: 'it returns false'. Refute it at one input. -/
def binsAnyWrong : ChangeSpec := { name := "binsAny", fn := fun _ => fun
  | [d1, d2] => { results := [.lit (.bool false)], args := [d1, d2] }
  | _ => none }
def BinsAnyWrongFalsely : Prop := binsAnyRow.holds Try.pinned (OpenSpec.ofChange binsAnyWrong)

/-- 'paintboxlaw26.BinsNone': WHATEVER THE INPUT: true; the input reads as it did. -/
def binsNoneSpec : ChangeSpec := { name := "binsNone", fn := fun _ => fun
  | [d1, d2] => { results := [.lit (.bool true)], args := [d1, d2] }
  | _ => none }
def binsNoneRow : OpenClaim := { program := "ytgdcdkajicgliaa", sum := "3ec5008250c3f52d52ed9fddb887c525c28c0b397bac172049ea03385885c341", func := "paintbox/paintboxlaw26.BinsNone", spec := "binsNone", unfollowed := true, recurses := true, apart := false }
def BinsNoneSaid : Prop := binsNoneRow.holds Try.pinned (OpenSpec.ofChange binsNoneSpec)

/-- ITS FALSE NEIGHBOUR: 'it returns false'. Refute it at one input. -/
def binsNoneWrong : ChangeSpec := { name := "binsNone", fn := fun _ => fun
  | [d1, d2] => { results := [.lit (.bool false)], args := [d1, d2] }
  | _ => none }
def BinsNoneWrongFalsely : Prop := binsNoneRow.holds Try.pinned (OpenSpec.ofChange binsNoneWrong)

/-- 'paintboxlaw26.BinsPaint': WHATEVER THE INPUT: true; the input reads as it did. -/
def binsPaintSpec : ChangeSpec := { name := "binsPaint", fn := fun _ => fun
  | [d1, d2] => { results := [.lit (.bool true)], args := [d1, d2] }
  | _ => none }
def binsPaintRow : OpenClaim := { program := "ytgdcdkajicgliaa", sum := "3ec5008250c3f52d52ed9fddb887c525c28c0b397bac172049ea03385885c341", func := "paintbox/paintboxlaw26.BinsPaint", spec := "binsPaint", unfollowed := true, recurses := true, apart := false }
def BinsPaintSaid : Prop := binsPaintRow.holds Try.pinned (OpenSpec.ofChange binsPaintSpec)

/-- ITS FALSE NEIGHBOUR: 'it returns false'. Refute it at one input. -/
def binsPaintWrong : ChangeSpec := { name := "binsPaint", fn := fun _ => fun
  | [d1, d2] => { results := [.lit (.bool false)], args := [d1, d2] }
  | _ => none }
def BinsPaintWrongFalsely : Prop := binsPaintRow.holds Try.pinned (OpenSpec.ofChange binsPaintWrong)

/- THE SECOND FORM. 'bulk': how many values and letters a reading holds, each counted each time it is reached (what is shared counts as often as it is met; a slice's spare places count too). A statement '..UptoSaid' is the law's where the arguments, and the package variables that the reading takes, are together of bulk at most 1048576: NARROWER than '..Said'. Prove '..Said' where nothing that the law and all that it calls make is longer than what came in: it says more and counts as full. Else prove '..UptoSaid'. A law counts once. -/
mutual
def uptoBulk {H : Type} : DataW H → Nat
  | .lit (.string bytes) => bytes.length + 1
  | .lit _ => 1
  | .nil => 1
  | .ptr d => uptoBulk d + 1
  | .slice elems spare => uptoBulkAll elems + uptoBulkAll spare + 1
  | .agg parts => uptoBulkAll parts + 1
  | .iface _ d => uptoBulk d + 1
  | .map entries => uptoBulkEntries entries + 1
  | .held _ => 1
def uptoBulkAll {H : Type} : List (DataW H) → Nat
  | [] => 0
  | d :: r => uptoBulk d + uptoBulkAll r
def uptoBulkEntries {H : Type} : List (Lit × DataW H) → Nat
  | [] => 0
  | x :: r => uptoBulkEntry x + uptoBulkEntries r
def uptoBulkEntry {H : Type} : Lit × DataW H → Nat
  | (.string bytes, d) => bytes.length + uptoBulk d + 1
  | (_, d) => uptoBulk d + 1
 end
def uptoSmall : (H : Type) → List (DataW H) → Bool := fun _ ds => decide (uptoBulkAll ds ≤ 1048576)
def OpenSpec.upto (s : _root_.Go.ChangeSpec) : _root_.Go.OpenSpec := { _root_.Go.OpenSpec.ofChange s with cond := some uptoSmall }

/-- 'paintboxlaw25.FrameClears', WHERE WHAT IT READS IS OF BULK AT MOST 1048576: true; the input reads as it did. -/
def frameClearsUptoRow : OpenClaim := { program := "ytgdcdkajicgliaa", sum := "3ec5008250c3f52d52ed9fddb887c525c28c0b397bac172049ea03385885c341", func := "paintbox/paintboxlaw25.FrameClears", spec := "frameClears", unfollowed := true, recurses := true, apart := false, narrowed := true }
def FrameClearsUptoSaid : Prop := frameClearsUptoRow.holds Try.pinned (OpenSpec.upto frameClearsSpec)

/-- 'paintboxlaw25.FrameKeeps', WHERE WHAT IT READS IS OF BULK AT MOST 1048576: true; the input reads as it did. -/
def frameKeepsUptoRow : OpenClaim := { program := "ytgdcdkajicgliaa", sum := "3ec5008250c3f52d52ed9fddb887c525c28c0b397bac172049ea03385885c341", func := "paintbox/paintboxlaw25.FrameKeeps", spec := "frameKeeps", unfollowed := true, recurses := true, apart := false, narrowed := true }
def FrameKeepsUptoSaid : Prop := frameKeepsUptoRow.holds Try.pinned (OpenSpec.upto frameKeepsSpec)

/-- 'paintboxlaw25.FrameNone', WHERE WHAT IT READS IS OF BULK AT MOST 1048576: true; the input reads as it did. -/
def frameNoneUptoRow : OpenClaim := { program := "ytgdcdkajicgliaa", sum := "3ec5008250c3f52d52ed9fddb887c525c28c0b397bac172049ea03385885c341", func := "paintbox/paintboxlaw25.FrameNone", spec := "frameNone", unfollowed := true, recurses := true, apart := false, narrowed := true }
def FrameNoneUptoSaid : Prop := frameNoneUptoRow.holds Try.pinned (OpenSpec.upto frameNoneSpec)

/-- 'paintboxlaw25.FrameDoes', WHERE WHAT IT READS IS OF BULK AT MOST 1048576: true; the input reads as it did. -/
def frameDoesUptoRow : OpenClaim := { program := "ytgdcdkajicgliaa", sum := "3ec5008250c3f52d52ed9fddb887c525c28c0b397bac172049ea03385885c341", func := "paintbox/paintboxlaw25.FrameDoes", spec := "frameDoes", unfollowed := true, recurses := true, apart := false, narrowed := true }
def FrameDoesUptoSaid : Prop := frameDoesUptoRow.holds Try.pinned (OpenSpec.upto frameDoesSpec)

/-- 'paintboxlaw26.BinsApart', WHERE WHAT IT READS IS OF BULK AT MOST 1048576: true; the input reads as it did. -/
def binsApartUptoRow : OpenClaim := { program := "ytgdcdkajicgliaa", sum := "3ec5008250c3f52d52ed9fddb887c525c28c0b397bac172049ea03385885c341", func := "paintbox/paintboxlaw26.BinsApart", spec := "binsApart", unfollowed := true, recurses := true, apart := false, narrowed := true }
def BinsApartUptoSaid : Prop := binsApartUptoRow.holds Try.pinned (OpenSpec.upto binsApartSpec)

/-- 'paintboxlaw26.BinsAny', WHERE WHAT IT READS IS OF BULK AT MOST 1048576: true; the input reads as it did. -/
def binsAnyUptoRow : OpenClaim := { program := "ytgdcdkajicgliaa", sum := "3ec5008250c3f52d52ed9fddb887c525c28c0b397bac172049ea03385885c341", func := "paintbox/paintboxlaw26.BinsAny", spec := "binsAny", unfollowed := true, recurses := true, apart := false, narrowed := true }
def BinsAnyUptoSaid : Prop := binsAnyUptoRow.holds Try.pinned (OpenSpec.upto binsAnySpec)

/-- 'paintboxlaw26.BinsNone', WHERE WHAT IT READS IS OF BULK AT MOST 1048576: true; the input reads as it did. -/
def binsNoneUptoRow : OpenClaim := { program := "ytgdcdkajicgliaa", sum := "3ec5008250c3f52d52ed9fddb887c525c28c0b397bac172049ea03385885c341", func := "paintbox/paintboxlaw26.BinsNone", spec := "binsNone", unfollowed := true, recurses := true, apart := false, narrowed := true }
def BinsNoneUptoSaid : Prop := binsNoneUptoRow.holds Try.pinned (OpenSpec.upto binsNoneSpec)

/-- 'paintboxlaw26.BinsPaint', WHERE WHAT IT READS IS OF BULK AT MOST 1048576: true; the input reads as it did. -/
def binsPaintUptoRow : OpenClaim := { program := "ytgdcdkajicgliaa", sum := "3ec5008250c3f52d52ed9fddb887c525c28c0b397bac172049ea03385885c341", func := "paintbox/paintboxlaw26.BinsPaint", spec := "binsPaint", unfollowed := true, recurses := true, apart := false, narrowed := true }
def BinsPaintUptoSaid : Prop := binsPaintUptoRow.holds Try.pinned (OpenSpec.upto binsPaintSpec)

end Rows
end Go.Proofs.Ytgdcdkajicgliaa
