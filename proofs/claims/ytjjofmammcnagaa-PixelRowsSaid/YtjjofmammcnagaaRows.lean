/-
  No cell of these rows narrows 'for every input' (looked for: loops, veiled, ifaces, maps, wideKeys, modest, calm, conditions, laid).
  DERIVED. THE GIVEN ROWS OF THIS SEAT. 6 by the template 'for every input the law returns true; each argument reads behind the call as it read before'; 0 by the template 'total and deterministic' (their statements: YtjjofmammcnagaaTotals.lean).
  GIVEN WITH THE SEED: the statements are not yours to turn. If you find one false, say at which input.
  Laid BY PROGRAM, IN A SANDBOX (cutbox-rows.mjs): the forced cells as the released guide's own fill.sh prints them over the translation a70fcf96f5467bf7… (all of the seat's roots in one cut). By AI agents, Wed Nov 11 2026. No macro, syntax, notation, axiom, sorry.
-/
import Derived.Test.YtjjofmammcnagaaChecked
import GoSem.Claim
import GoSem.ClaimJoined
import GoSem.ClaimMapViews
import Derived.JoinedTies
import Derived.KernelRfl
namespace Go.Proofs.Ytjjofmammcnagaa
/- THE CELL 'sum', in the pinned program and in every row, IS THE sha256 OF THE DUMP (.gsa) THAT YtjjofmammcnagaaProg.lean LOADS. Nothing in Lean hashes anything: it is a label: what it is worth is what the hold of that sum in a sandbox is worth. -/
noncomputable def Try.pinned : Pinned := { name := "ytjjofmammcnagaa", sum := "a70fcf96f5467bf70257ac4902d35d8ea2feb246782f1dd4d064b8294ae81496", checked := Try.checked }
namespace Rows
def none {H : Type} : Left H := { results := [], args := [] }

/-- 'paintboxlaw05.PixelUnpacks': WHATEVER THE INPUT: true; the input reads as it did. -/
def pixelUnpacksSpec : ChangeSpec := { name := "pixelUnpacks", fn := fun _ => fun
  | [d1, d2] => { results := [.lit (.bool true)], args := [d1, d2] }
  | _ => none }
def pixelUnpacksRow : OpenClaim := { program := "ytjjofmammcnagaa", sum := "a70fcf96f5467bf70257ac4902d35d8ea2feb246782f1dd4d064b8294ae81496", func := "paintbox/paintboxlaw05.PixelUnpacks", spec := "pixelUnpacks", apart := false }
def PixelUnpacksSaid : Prop := pixelUnpacksRow.holds Try.pinned (OpenSpec.ofChange pixelUnpacksSpec)

/-- ITS FALSE NEIGHBOUR: 'it returns false'. Refute it at one input. -/
def pixelUnpacksWrong : ChangeSpec := { name := "pixelUnpacks", fn := fun _ => fun
  | [d1, d2] => { results := [.lit (.bool false)], args := [d1, d2] }
  | _ => none }
def PixelUnpacksWrongFalsely : Prop := pixelUnpacksRow.holds Try.pinned (OpenSpec.ofChange pixelUnpacksWrong)

/-- 'paintboxlaw05.PixelPacks': WHATEVER THE INPUT: true; the input reads as it did. -/
def pixelPacksSpec : ChangeSpec := { name := "pixelPacks", fn := fun _ => fun
  | [d1, d2] => { results := [.lit (.bool true)], args := [d1, d2] }
  | _ => none }
def pixelPacksRow : OpenClaim := { program := "ytjjofmammcnagaa", sum := "a70fcf96f5467bf70257ac4902d35d8ea2feb246782f1dd4d064b8294ae81496", func := "paintbox/paintboxlaw05.PixelPacks", spec := "pixelPacks", apart := false }
def PixelPacksSaid : Prop := pixelPacksRow.holds Try.pinned (OpenSpec.ofChange pixelPacksSpec)

/-- ITS FALSE NEIGHBOUR: 'it returns false'. Refute it at one input. -/
def pixelPacksWrong : ChangeSpec := { name := "pixelPacks", fn := fun _ => fun
  | [d1, d2] => { results := [.lit (.bool false)], args := [d1, d2] }
  | _ => none }
def PixelPacksWrongFalsely : Prop := pixelPacksRow.holds Try.pinned (OpenSpec.ofChange pixelPacksWrong)

/-- 'paintboxlaw05.PixelBits': WHATEVER THE INPUT: true; the input reads as it did. -/
def pixelBitsSpec : ChangeSpec := { name := "pixelBits", fn := fun _ => fun
  | [d1, d2, d3] => { results := [.lit (.bool true)], args := [d1, d2, d3] }
  | _ => none }
def pixelBitsRow : OpenClaim := { program := "ytjjofmammcnagaa", sum := "a70fcf96f5467bf70257ac4902d35d8ea2feb246782f1dd4d064b8294ae81496", func := "paintbox/paintboxlaw05.PixelBits", spec := "pixelBits", apart := false }
def PixelBitsSaid : Prop := pixelBitsRow.holds Try.pinned (OpenSpec.ofChange pixelBitsSpec)

/-- ITS FALSE NEIGHBOUR: 'it returns false'. Refute it at one input. -/
def pixelBitsWrong : ChangeSpec := { name := "pixelBits", fn := fun _ => fun
  | [d1, d2, d3] => { results := [.lit (.bool false)], args := [d1, d2, d3] }
  | _ => none }
def PixelBitsWrongFalsely : Prop := pixelBitsRow.holds Try.pinned (OpenSpec.ofChange pixelBitsWrong)

/-- 'paintboxlaw05.PixelRises': WHATEVER THE INPUT: true; the input reads as it did. -/
def pixelRisesSpec : ChangeSpec := { name := "pixelRises", fn := fun _ => fun
  | [d1, d2, d3] => { results := [.lit (.bool true)], args := [d1, d2, d3] }
  | _ => none }
def pixelRisesRow : OpenClaim := { program := "ytjjofmammcnagaa", sum := "a70fcf96f5467bf70257ac4902d35d8ea2feb246782f1dd4d064b8294ae81496", func := "paintbox/paintboxlaw05.PixelRises", spec := "pixelRises", apart := false }
def PixelRisesSaid : Prop := pixelRisesRow.holds Try.pinned (OpenSpec.ofChange pixelRisesSpec)

/-- ITS FALSE NEIGHBOUR: 'it returns false'. Refute it at one input. -/
def pixelRisesWrong : ChangeSpec := { name := "pixelRises", fn := fun _ => fun
  | [d1, d2, d3] => { results := [.lit (.bool false)], args := [d1, d2, d3] }
  | _ => none }
def PixelRisesWrongFalsely : Prop := pixelRisesRow.holds Try.pinned (OpenSpec.ofChange pixelRisesWrong)

/-- 'paintboxlaw05.PixelRows': WHATEVER THE INPUT: true; the input reads as it did. -/
def pixelRowsSpec : ChangeSpec := { name := "pixelRows", fn := fun _ => fun
  | [d1, d2, d3] => { results := [.lit (.bool true)], args := [d1, d2, d3] }
  | _ => none }
def pixelRowsRow : OpenClaim := { program := "ytjjofmammcnagaa", sum := "a70fcf96f5467bf70257ac4902d35d8ea2feb246782f1dd4d064b8294ae81496", func := "paintbox/paintboxlaw05.PixelRows", spec := "pixelRows", apart := false }
def PixelRowsSaid : Prop := pixelRowsRow.holds Try.pinned (OpenSpec.ofChange pixelRowsSpec)

/-- ITS FALSE NEIGHBOUR: 'it returns false'. Refute it at one input. -/
def pixelRowsWrong : ChangeSpec := { name := "pixelRows", fn := fun _ => fun
  | [d1, d2, d3] => { results := [.lit (.bool false)], args := [d1, d2, d3] }
  | _ => none }
def PixelRowsWrongFalsely : Prop := pixelRowsRow.holds Try.pinned (OpenSpec.ofChange pixelRowsWrong)

/-- 'paintboxlaw05.PixelBack': WHATEVER THE INPUT: true; the input reads as it did. -/
def pixelBackSpec : ChangeSpec := { name := "pixelBack", fn := fun _ => fun
  | [d1, d2] => { results := [.lit (.bool true)], args := [d1, d2] }
  | _ => none }
def pixelBackRow : OpenClaim := { program := "ytjjofmammcnagaa", sum := "a70fcf96f5467bf70257ac4902d35d8ea2feb246782f1dd4d064b8294ae81496", func := "paintbox/paintboxlaw05.PixelBack", spec := "pixelBack", apart := false }
def PixelBackSaid : Prop := pixelBackRow.holds Try.pinned (OpenSpec.ofChange pixelBackSpec)

/-- ITS FALSE NEIGHBOUR: 'it returns false'. Refute it at one input. -/
def pixelBackWrong : ChangeSpec := { name := "pixelBack", fn := fun _ => fun
  | [d1, d2] => { results := [.lit (.bool false)], args := [d1, d2] }
  | _ => none }
def PixelBackWrongFalsely : Prop := pixelBackRow.holds Try.pinned (OpenSpec.ofChange pixelBackWrong)

/- THE SECOND FORM. 'bulk': how many values and letters a reading holds, each counted each time it is reached (what is shared counts as often as it is met; a slice's spare places count too). A statement '..UptoSaid' is the law's where the arguments, and the package variables that the reading takes, are together of bulk at most 1048576: NARROWER than '..Said'. Prove '..Said' where nothing that the law and all that it calls make is longer than what came in: it says more and counts as full. Else prove '..UptoSaid'. A law counts once. -/
mutual
def uptoBulk {H : Type} : DataW H → Nat
  | .lit (.string bytes) => bytes.length + 1
  | .lit _ => 1
  | .nil => 1
  | .ptr d => uptoBulk d + 1
  | .slice elems spare => uptoBulkAll elems + uptoBulkAll spare + 1
  | .agg parts => uptoBulkAll parts + 1
  | .iface _ d => uptoBulk d + 1
  | .map entries => uptoBulkEntries entries + 1
  | .held _ => 1
def uptoBulkAll {H : Type} : List (DataW H) → Nat
  | [] => 0
  | d :: r => uptoBulk d + uptoBulkAll r
def uptoBulkEntries {H : Type} : List (Lit × DataW H) → Nat
  | [] => 0
  | x :: r => uptoBulkEntry x + uptoBulkEntries r
def uptoBulkEntry {H : Type} : Lit × DataW H → Nat
  | (.string bytes, d) => bytes.length + uptoBulk d + 1
  | (_, d) => uptoBulk d + 1
 end
def uptoSmall : (H : Type) → List (DataW H) → Bool := fun _ ds => decide (uptoBulkAll ds ≤ 1048576)
def OpenSpec.upto (s : _root_.Go.ChangeSpec) : _root_.Go.OpenSpec := { _root_.Go.OpenSpec.ofChange s with cond := some uptoSmall }

/-- 'paintboxlaw05.PixelUnpacks', WHERE WHAT IT READS IS OF BULK AT MOST 1048576: true; the input reads as it did. -/
def pixelUnpacksUptoRow : OpenClaim := { program := "ytjjofmammcnagaa", sum := "a70fcf96f5467bf70257ac4902d35d8ea2feb246782f1dd4d064b8294ae81496", func := "paintbox/paintboxlaw05.PixelUnpacks", spec := "pixelUnpacks", apart := false, narrowed := true }
def PixelUnpacksUptoSaid : Prop := pixelUnpacksUptoRow.holds Try.pinned (OpenSpec.upto pixelUnpacksSpec)

/-- 'paintboxlaw05.PixelPacks', WHERE WHAT IT READS IS OF BULK AT MOST 1048576: true; the input reads as it did. -/
def pixelPacksUptoRow : OpenClaim := { program := "ytjjofmammcnagaa", sum := "a70fcf96f5467bf70257ac4902d35d8ea2feb246782f1dd4d064b8294ae81496", func := "paintbox/paintboxlaw05.PixelPacks", spec := "pixelPacks", apart := false, narrowed := true }
def PixelPacksUptoSaid : Prop := pixelPacksUptoRow.holds Try.pinned (OpenSpec.upto pixelPacksSpec)

/-- 'paintboxlaw05.PixelBits', WHERE WHAT IT READS IS OF BULK AT MOST 1048576: true; the input reads as it did. -/
def pixelBitsUptoRow : OpenClaim := { program := "ytjjofmammcnagaa", sum := "a70fcf96f5467bf70257ac4902d35d8ea2feb246782f1dd4d064b8294ae81496", func := "paintbox/paintboxlaw05.PixelBits", spec := "pixelBits", apart := false, narrowed := true }
def PixelBitsUptoSaid : Prop := pixelBitsUptoRow.holds Try.pinned (OpenSpec.upto pixelBitsSpec)

/-- 'paintboxlaw05.PixelRises', WHERE WHAT IT READS IS OF BULK AT MOST 1048576: true; the input reads as it did. -/
def pixelRisesUptoRow : OpenClaim := { program := "ytjjofmammcnagaa", sum := "a70fcf96f5467bf70257ac4902d35d8ea2feb246782f1dd4d064b8294ae81496", func := "paintbox/paintboxlaw05.PixelRises", spec := "pixelRises", apart := false, narrowed := true }
def PixelRisesUptoSaid : Prop := pixelRisesUptoRow.holds Try.pinned (OpenSpec.upto pixelRisesSpec)

/-- 'paintboxlaw05.PixelRows', WHERE WHAT IT READS IS OF BULK AT MOST 1048576: true; the input reads as it did. -/
def pixelRowsUptoRow : OpenClaim := { program := "ytjjofmammcnagaa", sum := "a70fcf96f5467bf70257ac4902d35d8ea2feb246782f1dd4d064b8294ae81496", func := "paintbox/paintboxlaw05.PixelRows", spec := "pixelRows", apart := false, narrowed := true }
def PixelRowsUptoSaid : Prop := pixelRowsUptoRow.holds Try.pinned (OpenSpec.upto pixelRowsSpec)

/-- 'paintboxlaw05.PixelBack', WHERE WHAT IT READS IS OF BULK AT MOST 1048576: true; the input reads as it did. -/
def pixelBackUptoRow : OpenClaim := { program := "ytjjofmammcnagaa", sum := "a70fcf96f5467bf70257ac4902d35d8ea2feb246782f1dd4d064b8294ae81496", func := "paintbox/paintboxlaw05.PixelBack", spec := "pixelBack", apart := false, narrowed := true }
def PixelBackUptoSaid : Prop := pixelBackUptoRow.holds Try.pinned (OpenSpec.upto pixelBackSpec)

end Rows
end Go.Proofs.Ytjjofmammcnagaa
