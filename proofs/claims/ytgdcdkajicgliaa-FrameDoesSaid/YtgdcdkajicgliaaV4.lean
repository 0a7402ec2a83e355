/- A colour: four numbers. No conditions. -/
import Derived.Test.YtgdcdkajicgliaaKit
namespace Go.Proofs.Ytgdcdkajicgliaa
open Go.RowKit
structure V4 where
  (a b c d : Int)
  deriving DecidableEq
def V4.L (v : V4) : List Int := [v.a, v.b, v.c, v.d]
def V4.C (v : V4) : List Value := [.int .i32 v.a, .int .i32 v.b, .int .i32 v.c, .int .i32 v.d]
end Go.Proofs.Ytgdcdkajicgliaa
