/- The law's does: an op by the program and by the document. Conditions: each theorem's own premises. -/
import Derived.Test.YtdomijfkpbganaaNam8
import Derived.Deep.RegionWith
import Derived.Deep.DrawnRows
namespace Go.Proofs.Ytdomijfkpbganaa
open Go.RowKit
set_option linter.unusedVariables false

/-- A whole load and a whole store of the document's names, folded. -/
def LdP (v : Value) (s : Sem Value) : Prop := Instr.loadAt 42 v = s
def StP (v u : Value) (s : Sem Unit) : Prop := Instr.storeAt 42 v u = s
theorem neV : Nonempty (Sem Value) := ⟨pure undef⟩
theorem neU : Nonempty (Sem Unit) := ⟨pure ()⟩
theorem LdW_fold (v : Value) : Instr.loadAt 42 v = @Classical.epsilon _ neV (LdP v) := Classical.epsilon_spec (p := LdP v) ⟨_, rfl⟩
theorem StW_fold (v u : Value) : Instr.storeAt 42 v u = @Classical.epsilon _ neU (StP v u) := Classical.epsilon_spec (p := StP v u) ⟨_, rfl⟩
theorem LdW_ok {w : World} {q : Nat} {st : List Int} {bd : Int} (h : RfAt w q st bd) : (@Classical.epsilon _ neV (LdP (.pointer (some ⟨q, 0, none⟩)))).run Try.prog w = .ok (.agg (rfCells st bd)) w := by
  rw [← LdW_fold]
  simp only [Instr.loadAt, Instr.sureAddr, Sem.run_bind, Sem.run_pure, Result.andThen_ok]
  exact run_loadVar_whole (P := Try.prog) 42 _ h.1 Try.underlying42 rfl (hs_rf _ _ h.2)
theorem StW_ok {w : World} {q : Nat} {st st2 : List Int} {bd bd2 : Int} (h : RfAt w q st bd) (hl : st2.length = 65) : (@Classical.epsilon _ neU (StP (.pointer (some ⟨q, 0, none⟩)) (.agg (rfCells st2 bd2)))).run Try.prog w = .ok () (w.setCells q 0 (rfCells st2 bd2).toList) := by
  rw [← StW_fold]
  refine run_storeAt_mid w q 0 42 (rfCells st2 bd2) ?_ (hs_rf _ _ hl) rfCells_one
  rw [rfCells_size hl, ← rfCells_size h.2 (bd := bd)]
  exact there_whole h.1
theorem RfAt.setAll {w : World} {q : Nat} {st st2 : List Int} {bd bd2 : Int} (h : RfAt w q st bd) (hl : st2.length = 65) : RfAt (w.setCells q 0 (rfCells st2 bd2).toList) q st2 bd2 :=
  ⟨heap_setCells_whole h.1 _ (by rw [rfCells_size hl, rfCells_size h.2]), hl⟩
theorem RfAt.drew {w : World} {q : Nat} {st : List Int} {bd : Int} (h : RfAt w q st bd) : RfAt w.drew q st bd := h.ext (Ext.refl _).drew
theorem bindR_length (st : List Int) (bd i : Int) : (bindR st bd i).2.2.1.length = st.length := by unfold bindR; split <;> (try split) <;> simp
theorem delR_length (st : List Int) (bd i : Int) : (delR st bd i).2.2.1.length = st.length := by unfold delR; split <;> (try split) <;> simp
theorem genR_length (st : List Int) (i : Int) : (genR st i).2.2.length = st.length := by unfold genR; split <;> (try split) <;> simp [markL_length]

attribute [local go_sem ↓] Go.wp_at_zero Go.wp_at_succ LdW_fold StW_fold

set_option maxHeartbeats 1000000 in
set_option maxRecDepth 20000 in
theorem does1 (p q : Nat) (st : List Int) (bd k N : Int) (w : World) (h : NmAt w p st bd) (hr : RfAt w q st bd) (hpq : p ≠ q) (hk : kindR k = 1) : Calls Try.prog 19 #[.pointer (some ⟨p, 0, none⟩), .pointer (some ⟨q, 0, none⟩), .agg #[.int .i64 k, .int .i64 N]] w fun e w' =>
    e = .returned (.bool true) ∧ NmAt w' p (bindR st bd N).2.2.1 (bindR st bd N).2.2.2 ∧ RfAt w' q (bindR st bd N).2.2.1 (bindR st bd N).2.2.2 ∧ Chg [p, q] w w' := by
  have hkind := kind_any k N (w.alloc (.cells #[.int .i64 k, .int .i64 N] 28))
  rw [hk] at hkind
  have hlp := h.lt
  have hlq := hr.lt
  have hlB := Lib.hid (show (bindR st bd N).2.2.1.length = 65 by rw [bindR_length]; exact hr.2)
  have hq0 := hr.2
  go_enter Try.func19, Try.ntmps19
  go_wp2_with (first | (go_at_call 11; refine hkind.mono ?_; rintro e w4 ⟨rfl, hx4⟩; have hnm4 := (h.ext ((Ext.refl _).alloc _)).ext hx4; have hrf4 := (hr.ext ((Ext.refl _).alloc _)).ext hx4; have hy4 := (((Chg.refl [p, q] w).alloc (.cells #[.int .i64 k, .int .i64 N] 28))).ext2 hx4; have hoN : w4.cell? ⟨w.heap.size, 1, none⟩ = some (.int .i64 N) := hx4.cell (cell_of_heap (heap_alloc_new _ _) (o := 1) (v := _) rfl); clear hkind) | (go_at_call 13; refine (bind_any p st bd N _ hnm4).mono ?_; rintro e w6 ⟨rfl, hnm6, hx6⟩; have hy6 := hy4.trans (hx6.mono (by simp)); have hrf6 := hrf4.chg hx6 (by simpa using fun e => hpq e.symm); have hoN6 := hx6.cell (by simp; omega) hoN))
  have hld := LdW_ok hrf6.drew
  have hy7 := hy6.drewN 1
  have hnm7 := hnm6.ext (Ext.refl _).drew
  have hrf7 := hrf6.drew
  generalize hB : bindR st bd N = B at *
  obtain ⟨b1, b2, b3, b4⟩ := B
  simp only at *
  generalize hC : rfCells st bd = C at *
  have HB := Lib.hid hB
  have HC := Lib.hid hC
  have HNM := Lib.hid hnm7
  have HRF := Lib.hid hrf7
  have HY := Lib.hid hy7
  clear hB hC hnm7 hrf7 hy7 hnm4 hrf4 hnm6 hrf6 hy4 hy6 hx4 hx6 h hr
  go_region_with (go_at_call 25; rw [← HC.out]; refine (rbind_any st bd N _ hq0).mono ?_; rintro e w8 ⟨rfl, hx8⟩; have hst8 := StW_ok (bd2 := b4) (HRF.out.ext hx8) hlB.out; have hy8 := Lib.hid ((HY.out.ext2 hx8)); have hnm8 := Lib.hid (HNM.out.ext hx8); rw [HB.out, HC.out])
  all_goals have hnm9 := Lib.hid (hnm8.out.chg (chg_setCells (M := [q]) (b := q) (by simp) (rfCells b3 b4).toList 0 _ (Chg.refl _ _)) (by simpa using hpq))
  all_goals have hrf9 := Lib.hid (RfAt.setAll (bd2 := b4) (HRF.out.ext hx8) hlB.out)
  all_goals have hy9 := Lib.hid (chg_setCells (M := [p, q]) (b := q) (by simp) (rfCells b3 b4).toList 0 _ hy8.out)
  all_goals clear hst8 hld hlB
  all_goals generalize rfCells b3 b4 = D at *
  all_goals go_wp2_with fail
  all_goals go_ret
  all_goals rw [HB.out]
  all_goals exact ⟨by simp, hnm9.out, hrf9.out, hy9.out⟩

set_option maxHeartbeats 1000000 in
set_option maxRecDepth 20000 in
theorem does2 (p q : Nat) (st : List Int) (bd k N : Int) (w : World) (h : NmAt w p st bd) (hr : RfAt w q st bd) (hpq : p ≠ q) (hk : kindR k = 2) : Calls Try.prog 19 #[.pointer (some ⟨p, 0, none⟩), .pointer (some ⟨q, 0, none⟩), .agg #[.int .i64 k, .int .i64 N]] w fun e w' =>
    e = .returned (.bool true) ∧ NmAt w' p (delR st bd N).2.2.1 (delR st bd N).2.2.2 ∧ RfAt w' q (delR st bd N).2.2.1 (delR st bd N).2.2.2 ∧ Chg [p, q] w w' := by
  have hkind := kind_any k N (w.alloc (.cells #[.int .i64 k, .int .i64 N] 28))
  rw [hk] at hkind
  have hlp := h.lt
  have hlq := hr.lt
  have hlB := Lib.hid (show (delR st bd N).2.2.1.length = 65 by rw [delR_length]; exact hr.2)
  have hq0 := hr.2
  go_enter Try.func19, Try.ntmps19
  go_wp2_with (first | (go_at_call 11; refine hkind.mono ?_; rintro e w4 ⟨rfl, hx4⟩; have hnm4 := (h.ext ((Ext.refl _).alloc _)).ext hx4; have hrf4 := (hr.ext ((Ext.refl _).alloc _)).ext hx4; have hy4 := (((Chg.refl [p, q] w).alloc (.cells #[.int .i64 k, .int .i64 N] 28))).ext2 hx4; have hoN : w4.cell? ⟨w.heap.size, 1, none⟩ = some (.int .i64 N) := hx4.cell (cell_of_heap (heap_alloc_new _ _) (o := 1) (v := _) rfl); clear hkind) | (go_at_call 14; refine (delete_any p st bd N _ hnm4).mono ?_; rintro e w6 ⟨rfl, hnm6, hx6⟩; have hy6 := hy4.trans (hx6.mono (by simp)); have hrf6 := hrf4.chg hx6 (by simpa using fun e => hpq e.symm); have hoN6 := hx6.cell (by simp; omega) hoN))
  have hld := LdW_ok hrf6.drew
  have hy7 := hy6.drewN 1
  have hnm7 := hnm6.ext (Ext.refl _).drew
  have hrf7 := hrf6.drew
  generalize hB : delR st bd N = B at *
  obtain ⟨b1, b2, b3, b4⟩ := B
  simp only at *
  generalize hC : rfCells st bd = C at *
  have HB := Lib.hid hB
  have HC := Lib.hid hC
  have HNM := Lib.hid hnm7
  have HRF := Lib.hid hrf7
  have HY := Lib.hid hy7
  clear hB hC hnm7 hrf7 hy7 hnm4 hrf4 hnm6 hrf6 hy4 hy6 hx4 hx6 h hr
  go_region_with (go_at_call 26; rw [← HC.out]; refine (rdel_any st bd N _ hq0).mono ?_; rintro e w8 ⟨rfl, hx8⟩; have hst8 := StW_ok (bd2 := b4) (HRF.out.ext hx8) hlB.out; have hy8 := Lib.hid ((HY.out.ext2 hx8)); have hnm8 := Lib.hid (HNM.out.ext hx8); rw [HB.out, HC.out])
  all_goals have hnm9 := Lib.hid (hnm8.out.chg (chg_setCells (M := [q]) (b := q) (by simp) (rfCells b3 b4).toList 0 _ (Chg.refl _ _)) (by simpa using hpq))
  all_goals have hrf9 := Lib.hid (RfAt.setAll (bd2 := b4) (HRF.out.ext hx8) hlB.out)
  all_goals have hy9 := Lib.hid (chg_setCells (M := [p, q]) (b := q) (by simp) (rfCells b3 b4).toList 0 _ hy8.out)
  all_goals clear hst8 hld hlB
  all_goals generalize rfCells b3 b4 = D at *
  all_goals go_wp2_with fail
  all_goals go_ret
  all_goals rw [HB.out]
  all_goals exact ⟨by simp, hnm9.out, hrf9.out, hy9.out⟩

end Go.Proofs.Ytdomijfkpbganaa
