/- An element of an array of structs, as one step. No conditions. -/
import Derived.Test.YtgdcdkajicgliaaOps7
namespace Go.Proofs.Ytgdcdkajicgliaa
open Go.RowKit
set_option linter.unusedVariables false
set_option maxRecDepth 100000

theorem idxS0 (a0 a1 a2 a3 a4 a5 a6 a7 a8 a9 a10 a11 a12 a13 : Value) (w : World) : (Instr.index 164 (.agg #[a0, a1, a2, a3, a4, a5, a6, a7, a8, a9, a10, a11, a12, a13]) (.int .i64 0)).run Try.prog w = .ok (.agg #[a0, a1, a2, a3, a4, a5, a6]) w := by
  simp [Instr.index, run_underlying Try.underlying164, asIntOf, part, go_sem]

theorem idxS1 (a0 a1 a2 a3 a4 a5 a6 a7 a8 a9 a10 a11 a12 a13 : Value) (w : World) : (Instr.index 164 (.agg #[a0, a1, a2, a3, a4, a5, a6, a7, a8, a9, a10, a11, a12, a13]) (.int .i64 1)).run Try.prog w = .ok (.agg #[a7, a8, a9, a10, a11, a12, a13]) w := by
  simp [Instr.index, run_underlying Try.underlying164, asIntOf, part, go_sem]

theorem idxB0 (a0 a1 a2 a3 a4 a5 : Value) (w : World) : (Instr.index 141 (.agg #[a0, a1, a2, a3, a4, a5]) (.int .i64 0)).run Try.prog w = .ok (.agg #[a0, a1, a2]) w := by
  simp [Instr.index, run_underlying Try.underlying141, asIntOf, part, go_sem]

theorem idxB1 (a0 a1 a2 a3 a4 a5 : Value) (w : World) : (Instr.index 141 (.agg #[a0, a1, a2, a3, a4, a5]) (.int .i64 1)).run Try.prog w = .ok (.agg #[a3, a4, a5]) w := by
  simp [Instr.index, run_underlying Try.underlying141, asIntOf, part, go_sem]

theorem idxD0 (a0 a1 a2 a3 a4 a5 a6 a7 a8 a9 a10 a11 : Value) (w : World) : (Instr.index 195 (.agg #[a0, a1, a2, a3, a4, a5, a6, a7, a8, a9, a10, a11]) (.int .i64 0)).run Try.prog w = .ok (.agg #[a0, a1, a2]) w := by
  simp [Instr.index, run_underlying Try.underlying195, asIntOf, part, go_sem]

theorem idxD1 (a0 a1 a2 a3 a4 a5 a6 a7 a8 a9 a10 a11 : Value) (w : World) : (Instr.index 195 (.agg #[a0, a1, a2, a3, a4, a5, a6, a7, a8, a9, a10, a11]) (.int .i64 1)).run Try.prog w = .ok (.agg #[a3, a4, a5]) w := by
  simp [Instr.index, run_underlying Try.underlying195, asIntOf, part, go_sem]

theorem idxD2 (a0 a1 a2 a3 a4 a5 a6 a7 a8 a9 a10 a11 : Value) (w : World) : (Instr.index 195 (.agg #[a0, a1, a2, a3, a4, a5, a6, a7, a8, a9, a10, a11]) (.int .i64 2)).run Try.prog w = .ok (.agg #[a6, a7, a8]) w := by
  simp [Instr.index, run_underlying Try.underlying195, asIntOf, part, go_sem]

theorem idxD3 (a0 a1 a2 a3 a4 a5 a6 a7 a8 a9 a10 a11 : Value) (w : World) : (Instr.index 195 (.agg #[a0, a1, a2, a3, a4, a5, a6, a7, a8, a9, a10, a11]) (.int .i64 3)).run Try.prog w = .ok (.agg #[a9, a10, a11]) w := by
  simp [Instr.index, run_underlying Try.underlying195, asIntOf, part, go_sem]

theorem idxI0 (a0 a1 a2 : Value) (w : World) : (Instr.index 165 (.agg #[a0, a1, a2]) (.int .i64 0)).run Try.prog w = .ok a0 w := by
  simp [Instr.index, run_underlying Try.underlying165, asIntOf, part, go_sem]

theorem idxI1 (a0 a1 a2 : Value) (w : World) : (Instr.index 165 (.agg #[a0, a1, a2]) (.int .i64 1)).run Try.prog w = .ok a1 w := by
  simp [Instr.index, run_underlying Try.underlying165, asIntOf, part, go_sem]

theorem idxI2 (a0 a1 a2 : Value) (w : World) : (Instr.index 165 (.agg #[a0, a1, a2]) (.int .i64 2)).run Try.prog w = .ok a2 w := by
  simp [Instr.index, run_underlying Try.underlying165, asIntOf, part, go_sem]

theorem idxV0 (a0 a1 a2 a3 : Value) (w : World) : (Instr.index 26 (.agg #[a0, a1, a2, a3]) (.int .i64 0)).run Try.prog w = .ok a0 w := by
  simp [Instr.index, run_underlying Try.underlying26, asIntOf, part, go_sem]

theorem idxV1 (a0 a1 a2 a3 : Value) (w : World) : (Instr.index 26 (.agg #[a0, a1, a2, a3]) (.int .i64 1)).run Try.prog w = .ok a1 w := by
  simp [Instr.index, run_underlying Try.underlying26, asIntOf, part, go_sem]

theorem idxV2 (a0 a1 a2 a3 : Value) (w : World) : (Instr.index 26 (.agg #[a0, a1, a2, a3]) (.int .i64 2)).run Try.prog w = .ok a2 w := by
  simp [Instr.index, run_underlying Try.underlying26, asIntOf, part, go_sem]

theorem idxV3 (a0 a1 a2 a3 : Value) (w : World) : (Instr.index 26 (.agg #[a0, a1, a2, a3]) (.int .i64 3)).run Try.prog w = .ok a3 w := by
  simp [Instr.index, run_underlying Try.underlying26, asIntOf, part, go_sem]

theorem idxM0 (a0 a1 a2 a3 : Value) (w : World) : (Instr.index 40 (.agg #[a0, a1, a2, a3]) (.int .i64 0)).run Try.prog w = .ok a0 w := by
  simp [Instr.index, run_underlying Try.underlying40, asIntOf, part, go_sem]

theorem idxM1 (a0 a1 a2 a3 : Value) (w : World) : (Instr.index 40 (.agg #[a0, a1, a2, a3]) (.int .i64 1)).run Try.prog w = .ok a1 w := by
  simp [Instr.index, run_underlying Try.underlying40, asIntOf, part, go_sem]

theorem idxM2 (a0 a1 a2 a3 : Value) (w : World) : (Instr.index 40 (.agg #[a0, a1, a2, a3]) (.int .i64 2)).run Try.prog w = .ok a2 w := by
  simp [Instr.index, run_underlying Try.underlying40, asIntOf, part, go_sem]

theorem idxM3 (a0 a1 a2 a3 : Value) (w : World) : (Instr.index 40 (.agg #[a0, a1, a2, a3]) (.int .i64 3)).run Try.prog w = .ok a3 w := by
  simp [Instr.index, run_underlying Try.underlying40, asIntOf, part, go_sem]

end Go.Proofs.Ytgdcdkajicgliaa
