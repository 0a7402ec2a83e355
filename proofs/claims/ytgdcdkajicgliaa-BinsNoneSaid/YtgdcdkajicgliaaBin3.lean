/- The wake. Conditions: each theorem's own premises. -/
import Derived.Test.YtgdcdkajicgliaaBin2
namespace Go.Proofs.Ytgdcdkajicgliaa
open Go.RowKit
set_option linter.unusedVariables false

set_option maxRecDepth 100000 in
set_option maxHeartbeats 2000000 in
theorem wakes_any (w : World) : Calls Try.prog 39 #[] w fun e w' => e = .returned (.bool true) ∧ Ext w w' := by
  go_enter Try.func39, Try.ntmps39
  go_upto_region 4 with (first | (go_at_call 42; refine (new_any 20 5 (by decide) (by decide) (by decide) (by decide) _).mono ?_; rintro _ w1 ⟨p, g, rfl, hg0, hgp, hb, hg, hx1⟩; have HB := Lib.hid hb; have HG := Lib.hid hg; have HX1 := Lib.hid hx1; clear hb hg hx1) | (go_at_call 43; refine (tiles_any p 20 5 2 _ _ _ _ HB.out).mono ?_; rintro _ _ ⟨rfl, rfl⟩))
  have HS := Lib.hid (heap_alloc_new w1 (.cells skL.toArray 99))
  have n1 := heap_lt HB.out
  have n2 := heap_lt HG.out
  have HADD := Lib.hid (add_wake p g w1.heap.size _ (HB.out.ext ((Ext.refl _).alloc (.cells skL.toArray 99))) (((Ext.refl _).alloc _).heap HG.out) HS.out (by omega) (by omega) (by omega))
  go_wp2_with (first | (go_at_call 45; refine HADD.out.mono ?_; rintro _ w2 ⟨rfl, hb2, hc2⟩; have HB2 := Lib.hid hb2; have HX2 := Lib.hid ((HX1.out.alloc (.cells skL.toArray 99)).chgTrans hc2 (by simp; omega)); have HT : Hid (Calls Try.prog 44 #[.pointer (some ⟨p, 0, none⟩), .int .i64 16, .int .i64 0] w2 fun e w' => e = .returned (.tuple #[.int .i64 1, .int .i64 0]) ∧ w2 = w') := Lib.hid (tile_any p 20 5 _ _ 16 0 w2 hb2 (by decide) (by decide)); clear hb2 hc2) | (go_at_call 44; refine HT.out.mono ?_; rintro _ _ ⟨rfl, rfl⟩) | (go_at_call 46; refine (len_any p 20 5 _ _ _ HB2.out).mono ?_; rintro _ _ ⟨rfl, rfl⟩))
  go_ret
  exact ⟨rfl, HX2.out⟩
end Go.Proofs.Ytgdcdkajicgliaa
