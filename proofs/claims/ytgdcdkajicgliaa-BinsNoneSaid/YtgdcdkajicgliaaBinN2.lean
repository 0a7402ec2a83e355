/- Bins and planes that are not there; planes' sides. Conditions: each theorem's own premises. -/
import Derived.Test.YtgdcdkajicgliaaBinN
import Derived.Deep.RegionWith
import Derived.Deep.DrawnRows
namespace Go.Proofs.Ytgdcdkajicgliaa
open Go.RowKit
set_option linter.unusedVariables false
set_option maxRecDepth 100000

theorem sides_any (B : Pb) (P : Pl) (w : World) (h : PlAt w B P) : Calls Try.prog 22 #[.pointer (some ⟨B.p, 0, none⟩)] w fun e w' => e = .returned (.tuple #[.int .i64 P.W, .int .i64 P.H]) ∧ Ext w w' := by
  have c0 : w.cell? ⟨B.p, 0, none⟩ = some (.int .i64 P.W) := cell_of_heap h.p rfl
  have c1 : w.cell? ⟨B.p, 1, none⟩ = some (.int .i64 P.H) := cell_of_heap h.p rfl
  have n0 := heap_lt h.p
  clear h
  go_enter Try.func22, Try.ntmps22
  go_wp2
  all_goals go_region_with fail
  all_goals go_wp2_with fail
  all_goals go_ret2
  all_goals exact ⟨rfl, (Ext.refl _).drew⟩
theorem tile_nil (x y : Int) (w : World) : Calls Try.prog 44 #[.pointer none, .int .i64 x, .int .i64 y] w fun e w' => e = .returned (.tuple #[.int .i64 0, .int .i64 1]) ∧ w = w' := by
  go_enter Try.func44, Try.ntmps44
  go_wp2
  go_ret2
  exact ⟨rfl, rfl⟩
theorem tiles_nil (w : World) : Calls Try.prog 43 #[.pointer none] w fun e w' => e = .returned (.int .i64 0) ∧ w = w' := by
  go_enter Try.func43, Try.ntmps43
  go_wp2
  go_ret
  exact ⟨rfl, rfl⟩
theorem len_nil (w : World) : Calls Try.prog 46 #[.pointer none] w fun e w' => e = .returned (.int .i64 0) ∧ w = w' := by
  go_enter Try.func46, Try.ntmps46
  go_wp2
  go_ret
  exact ⟨rfl, rfl⟩
theorem add_nil (v : Value) (w : World) : Calls Try.prog 45 #[.pointer none, v] w fun e w' => e = .returned (.int .i64 1) ∧ w = w' := by
  go_enter Try.func45, Try.ntmps45
  go_wp2
  go_step3
  go_wp2
  simp only [Exit.noGoto]
  go_ret
  exact ⟨rfl, rfl⟩
theorem list_nil (w : World) : Calls Try.prog 51 #[.pointer none, .int .i64 0] w fun e w' => e = .returned (.func (.func 82) #[] #[.pointer (some ⟨w.heap.size, 0, none⟩)]) ∧ w'.heap[w.heap.size]? = some (.cells #[.slice none 0 0] 92 (0, 0)) ∧ Ext w w' := by
  go_enter Try.func51, Try.ntmps51
  go_wp2_with (go_at_call 43; refine (tiles_nil _).mono ?_; rintro _ _ ⟨rfl, rfl⟩)
  go_ret
  exact ⟨rfl, heap_alloc_new _ _, (Ext.refl _).alloc _⟩
theorem paint_nil (x : Option Addr) (s : St) (o : Value) (w : World) : Calls Try.prog 47 #[.pointer none, .pointer x, .agg s.C.toArray, o] w fun e w' => e = .returned (.tuple #[.int .i64 0, .int .i64 1]) ∧ Ext w w' := by
  go_enter Try.func47, Try.ntmps47
  go_wp2
  go_ret2
  exact ⟨rfl, ((Ext.refl _).alloc _).alloc _⟩
theorem whole_nil (s : St) (v : Value) (w : World) : Calls Try.prog 50 #[.pointer none, .agg s.C.toArray, v] w fun e w' => e = .returned (.tuple #[.int .i64 0, .int .i64 1]) ∧ Ext w w' := by
  go_enter Try.func50, Try.ntmps50
  go_wp2
  go_ret2
  exact ⟨rfl, (Ext.refl _).alloc _⟩
theorem paint_nilp (p : Nat) (s : St) (o : Value) (w : World) : Calls Try.prog 47 #[.pointer (some ⟨p, 0, none⟩), .pointer none, .agg s.C.toArray, o] w fun e w' => e = .returned (.tuple #[.int .i64 0, .int .i64 1]) ∧ Ext w w' := by
  go_enter Try.func47, Try.ntmps47
  go_upto_region 1 with fail
  obtain ⟨w2, e2, h1, h2, hx⟩ := heap2x w (.cells #[.pointer none] 29) (.cells s.C.toArray 42)
  rw [e2]
  have c1 : w2.cell? ⟨w.heap.size, 0, none⟩ = some (.pointer none) := cell_of_heap h1 rfl
  have n1 := heap_lt h1
  go_wp2_with fail
  go_ret2
  exact ⟨rfl, hx⟩
theorem paint_sides (p H : Nat) (sl : Value) (n : Int) (B : Pb) (P : Pl) (s : St) (o : Value) (w : World) (hb : BAt w p 41 H sl n) (hp : PlAt w B P) (hne : P.W ≤ 40) : Calls Try.prog 47 #[.pointer (some ⟨p, 0, none⟩), .pointer (some ⟨B.p, 0, none⟩), .agg s.C.toArray, o] w fun e w' => e = .returned (.tuple #[.int .i64 0, .int .i64 2]) ∧ Ext w w' := by
  have HB := Lib.hid hb
  have HPP := Lib.hid hp
  have hg : ((P.W : Int) != 41) = true := by simp; omega
  go_enter Try.func47, Try.ntmps47
  go_upto_region 1 with fail
  obtain ⟨w2, e2, h1, h2, hx⟩ := heap2x w (.cells #[.pointer (some ⟨B.p, 0, none⟩)] 29) (.cells s.C.toArray 42)
  rw [e2]
  have c1 : w2.cell? ⟨w.heap.size, 0, none⟩ = some (.pointer (some ⟨B.p, 0, none⟩)) := cell_of_heap h1 rfl
  have n1 := heap_lt h1
  have HX := Lib.hid hx
  clear hb hp e2 hx h1 h2
  go_wp2_with (go_at_call 22; refine (sides_any B P _ (HPP.out.ext HX.out)).mono ?_; rintro _ w3 ⟨rfl, hx3⟩; have hb3 := HB.out.ext (HX.out.trans hx3); have d0 : w3.cell? ⟨p, 0, none⟩ = some (.int .i64 41) := cell_of_heap hb3 rfl; have n3 := heap_lt hb3)
  go_ret2
  exact ⟨rfl, HX.out.trans hx3⟩
end Go.Proofs.Ytgdcdkajicgliaa
