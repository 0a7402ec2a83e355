/- Contracts of ops' Turn and the document's. Conditions: each theorem's own premises. -/
import Derived.Test.YtgdcdkajicgliaaOps3
namespace Go.Proofs.Ytgdcdkajicgliaa
open Go.RowKit
set_option linter.unusedVariables false
set_option maxRecDepth 100000

set_option maxHeartbeats 2000000 in
theorem turn_any (how s r wr : Int) (w : World) : Calls Try.prog 98 #[.int .i64 how, .int .i64 s, .int .i64 r, .int .i64 wr] w fun e w' => e = .returned (.int .i64 (turnV how s r wr)) ∧ w = w' := by
  have HS := Lib.hid (byteN_lt s)
  have HR := Lib.hid (byteN_lt r)
  have HW := Lib.hid (byteN_lt wr)
  have HT := Lib.hid (show turnV how s r wr = mixB (nD how (byteN s) (byteN r)) (byteN s) (byteN wr) from rfl)
  have es := and255 s
  have er := and255 r
  have ew := and255 wr
  generalize hb : byteN s = b at *
  generalize hrr : byteN r = rr at *
  generalize hww : byteN wr = ww at *
  generalize turnV how s r wr = TV at *
  clear hb hrr hww
  have hfin : ∀ z : Int, z = ((nD how b rr : Nat) : Int) → bits .or .i64 (bits .and .i64 z (ww : Int)) (bits .andNot .i64 (b : Int) (ww : Int)) = (TV : Int) := fun z he => by
    rw [he, mix8 _ b ww (nD_lt _ _ _ HS.out HR.out) HS.out HW.out, HT.out]
  have HF := Lib.hid hfin
  clear hfin
  rcases how_cases how with rfl | rfl | rfl | rfl | rfl | rfl | rfl | h
  · go_enter Try.func98, Try.ntmps98
    go_wp2
    all_goals go_ret
    all_goals exact ⟨ret_int (HF.out 0 rfl), rfl⟩
  · go_enter Try.func98, Try.ntmps98
    go_wp2
    all_goals go_ret
    all_goals exact ⟨ret_int (HF.out _ rfl), rfl⟩
  · go_enter Try.func98, Try.ntmps98
    go_wp2
    all_goals go_ret
    all_goals refine ⟨ret_int (HF.out _ ?_), rfl⟩
    all_goals rw [show nD 4 b rr = if b < 255 then b + 1 else 255 from rfl]
    all_goals have := HS.out
    all_goals unfold wrap64 at *
    all_goals split <;> omega
  · have e1 : bits .and .i64 (wrap64 ((b : Int) + 1)) 255 = ((((b + 1) % 256 : Nat)) : Int) := by rw [and255]; have := HS.out; unfold byteN wrap64; omega
    go_enter Try.func98, Try.ntmps98
    go_wp2
    all_goals go_ret
    all_goals exact ⟨ret_int (HF.out _ rfl), rfl⟩
  · go_enter Try.func98, Try.ntmps98
    go_wp2
    all_goals go_ret
    all_goals refine ⟨ret_int (HF.out _ ?_), rfl⟩
    all_goals rw [show nD 6 b rr = b - 1 from rfl]
    all_goals have := HS.out
    all_goals unfold wrap64 at *
    all_goals omega
  · have e1 : bits .and .i64 (wrap64 ((b : Int) - 1)) 255 = ((((b + 255) % 256 : Nat)) : Int) := by rw [and255]; have := HS.out; unfold byteN wrap64; omega
    go_enter Try.func98, Try.ntmps98
    go_wp2
    all_goals go_ret
    all_goals exact ⟨ret_int (HF.out _ rfl), rfl⟩
  · have e1 := inv8 b HS.out
    go_enter Try.func98, Try.ntmps98
    go_wp2
    all_goals go_ret
    all_goals exact ⟨ret_int (HF.out _ rfl), rfl⟩
  · have hv := Lib.hid (nD_other how b rr h)
    obtain ⟨h2, h3, h4, h5, h6, h7, h8⟩ := h
    go_enter Try.func98, Try.ntmps98
    go_wp2
    all_goals go_ret
    all_goals exact ⟨ret_int (HF.out _ (by rw [hv.out])), rfl⟩
end Go.Proofs.Ytgdcdkajicgliaa
