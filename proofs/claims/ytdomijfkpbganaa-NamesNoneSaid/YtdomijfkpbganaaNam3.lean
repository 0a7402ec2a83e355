/- Names that are not there; copies; the laws' wakes, few and kind. Conditions: each theorem's own premises. -/
import Derived.Test.YtdomijfkpbganaaNam2
import Derived.Test.YtdomijfkpbganaaOpen
import Derived.Test.YtdomijfkpbganaaBlk
namespace Go.Proofs.Ytdomijfkpbganaa
open Go.RowKit
set_option linter.unusedVariables false

theorem bind_nil (i : Int) (w : World) : Calls Try.prog 13 #[.pointer none, .int .i64 i] w fun e w' => e = .returned (.tuple #[.bool false, .int .i64 1]) ∧ w = w' := by
  go_enter Try.func13, Try.ntmps13
  go_wp2
  go_ret2
  exact ⟨rfl, rfl⟩
theorem delete_nil (i : Int) (w : World) : Calls Try.prog 14 #[.pointer none, .int .i64 i] w fun e w' => e = .returned (.tuple #[.bool false, .int .i64 1]) ∧ w = w' := by
  go_enter Try.func14, Try.ntmps14
  go_wp2
  go_ret2
  exact ⟨rfl, rfl⟩
theorem is_nil (i : Int) (w : World) : Calls Try.prog 17 #[.pointer none, .int .i64 i] w fun e w' => e = .returned (.bool false) ∧ w = w' := by
  go_enter Try.func17, Try.ntmps17
  go_wp2
  go_ret
  exact ⟨rfl, rfl⟩
theorem used_nil (i : Int) (w : World) : Calls Try.prog 15 #[.pointer none, .int .i64 i] w fun e w' => e = .returned (.bool false) ∧ w = w' := by
  go_enter Try.func15, Try.ntmps15
  go_wp2
  go_ret
  exact ⟨rfl, rfl⟩
theorem left_nil (w : World) : Calls Try.prog 16 #[.pointer none] w fun e w' => e = .returned (.int .i64 0) ∧ w = w' := by
  go_enter Try.func16, Try.ntmps16
  go_wp2
  refine wp_loop_rounds 1 ?_
  rw [rounds_succ]
  go_wp2
  go_ret
  exact ⟨rfl, rfl⟩

theorem copy_nil (w : World) : Calls Try.prog 20 #[.pointer none] w fun e w' => e = .returned (.pointer none) ∧ w = w' := by
  go_enter Try.func20, Try.ntmps20
  go_wp2
  go_ret
  exact ⟨rfl, rfl⟩

theorem info_names : (Try.prog.info? 53).map (·.size) = some 66 := by kernel_rfl
theorem nmCells_size {st : List Int} {bd : Int} (h : st.length = 65) : (nmCells st bd).size = 66 := by simp [nmCells, h]
theorem nmCells_one {st : List Int} {bd : Int} : (nmCells st bd).all (·.oneCell') = true := by
  unfold nmCells
  refine all_oneCell_toArray ?_
  simp only [List.mem_append, List.mem_map, List.mem_singleton]
  rintro v (⟨x, _, rfl⟩ | rfl) <;> rfl

set_option maxRecDepth 100000 in
theorem copy_any (p : Nat) (st : List Int) (bd : Int) (w : World) (h : NmAt w p st bd) : Calls Try.prog 20 #[.pointer (some ⟨p, 0, none⟩)] w fun e w' =>
    ∃ q, e = .returned (.pointer (some ⟨q, 0, none⟩)) ∧ w.heap.size ≤ q ∧ NmAt w' q st bd ∧ Ext w w' := by
  have hz := zero_names
  have H := Lib.hid h
  have hlt := h.lt
  generalize hC : nmCells st bd = C at *
  have HC := Lib.hid hC
  have hh := h.1
  rw [hC] at hh
  have hsz := Lib.hid (show (Try.prog.info? 53).map (·.size) = some C.size by rw [info_names, ← hC, nmCells_size h.2])
  have hone := Lib.hid (show C.all (·.oneCell') = true by rw [← hC]; exact nmCells_one)
  have hl := Lib.hid (show C.size = nm0.size by rw [← hC, nmCells_size h.2, nm0_size])
  have HH := Lib.hid hh
  clear h hC hh
  go_enter Try.func20, Try.ntmps20
  go_wp2_with (first | (refine wpList_load_whole rfl 53 _ rfl p rfl C 53 HH.out _ Try.underlying53 rfl hsz.out ?_) | (refine wpList_store_whole rfl 53 _ _ rfl w.heap.size C rfl rfl nm0 53 (heap_alloc_new _ _) hl.out hsz.out hone.out ?_; intro w2 hw2 hc2))
  go_ret
  exact ⟨_, rfl, Nat.le_refl _, ⟨by rw [HC.out]; exact hw2, H.out.2⟩, ((Ext.refl _).alloc _).chgTrans hc2 (by simp)⟩

end Go.Proofs.Ytdomijfkpbganaa
