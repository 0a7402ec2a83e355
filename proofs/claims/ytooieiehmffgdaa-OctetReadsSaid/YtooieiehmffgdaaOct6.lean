/- The walks of octet's laws, of whatever arguments. Conditions: that the arguments can be read. -/
import Derived.Test.YtooieiehmffgdaaOpen
import Derived.Test.YtooieiehmffgdaaOct5
namespace Go.Proofs.Ytooieiehmffgdaa
open Go.RowKit
set_option linter.unusedVariables false

theorem cells_u8 : Try.prog.cellsOf 5 = 1 := by kernel_rfl
theorem bytes_u8 : Try.prog.bytesOf 5 = 1 := by kernel_rfl
theorem u32_of_wf {z : Int} (h : (Lit.int .u32 z).wf = true) : 0 ≤ z ∧ z < 4294967296 := by
  simp [Lit.wf, IntKind.min, IntKind.max, IntKind.bits, IntKind.signed] at h
  omega

theorem puts_arg (W : World) (v0 v1 : Value) (h0 : ArgIs Try.prog W 22 v0) (h1 : ArgIs Try.prog W 23 v1) :
    Calls Try.prog 3 #[v0, v1] W fun e w' => e = .returned (.bool true) ∧ Ext W w' := by
  obtain ⟨zs, hi, hb⟩ := h0.ints Try.underlying22 Try.underlying5 cells_u8 bytes_u8
  obtain ⟨x, rfl, hx⟩ := h1.int Try.underlying23
  have := u32_of_wf hx
  exact puts_walk v0 zs x W hi (by omega) this.1 this.2

end Go.Proofs.Ytooieiehmffgdaa
