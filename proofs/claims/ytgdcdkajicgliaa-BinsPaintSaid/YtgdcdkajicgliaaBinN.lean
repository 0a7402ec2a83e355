/- Planes for a work; how a work comes in; bins and planes that are not there; the walk of BinsNone. Conditions: each theorem's own premises. Bins and planes that are not there; planes' sides. Conditions: each theorem's own premises. -/
import Derived.Test.YtgdcdkajicgliaaFra1
import Derived.Test.YtgdcdkajicgliaaBin2
import Derived.Test.YtgdcdkajicgliaaBinL
import Derived.Test.YtgdcdkajicgliaaOps17
import Derived.Deep.RegionWith
import Derived.Deep.DrawnRows
namespace Go.Proofs.Ytgdcdkajicgliaa
open Go.RowKit
set_option linter.unusedVariables false
set_option maxRecDepth 100000

/-- The cells of a work. -/
def wkC (W H : Int) (d : Bool) (s : St) (o : Value) : List Value := [.int .i64 W, .int .i64 H, .bool d] ++ s.C ++ [o]
theorem wkIn {W0 : World} {v : Value} (h : ArgIs Try.prog W0 91 v) : ∃ (W H : Int) (d : Bool) (s : St) (o : Value), v = .agg (wkC W H d s o).toArray ∧ CellIs Try.prog W0 (.slice 3) o := by
  obtain ⟨cs, rfl, g0⟩ := h.agg 7 (ls := [.int .i64, .int .i64, .bool, .bool, .int .i64, .int .i64, .int .i64, .int .i64, .bool, .int .i64, .int .i64, .int .i64, .int .i64, .int .i64, .int .i64, .int .i64, .int .i64, .int .i64, .int .i64, .int .i64, .int .i64, .int .i64, .int .i64, .bool, .bool, .int .i64, .bool, .int .i64, .int .i64, .int .i64, .int .i64, .int .i64, .int .i64, .int .i32, .int .i32, .int .i32, .int .i32, .bool, .bool, .bool, .bool, .slice 3]) (by kernel_rfl) (by kernel_rfl) (by kernel_rfl)
  obtain ⟨u0, us, rfl, ⟨W, rfl, _⟩, g1⟩ := g0.cons_inv
  obtain ⟨u1, us, rfl, ⟨H, rfl, _⟩, g2⟩ := g1.cons_inv
  obtain ⟨u2, us, rfl, ⟨d, rfl⟩, g3⟩ := g2.cons_inv
  obtain ⟨u3, us, rfl, ⟨sc, rfl⟩, g4⟩ := g3.cons_inv
  obtain ⟨u4, us, rfl, ⟨x, rfl, _⟩, g5⟩ := g4.cons_inv
  obtain ⟨u5, us, rfl, ⟨y, rfl, _⟩, g6⟩ := g5.cons_inv
  obtain ⟨u6, us, rfl, ⟨w, rfl, _⟩, g7⟩ := g6.cons_inv
  obtain ⟨u7, us, rfl, ⟨h1, rfl, _⟩, g8⟩ := g7.cons_inv
  obtain ⟨u8, us, rfl, ⟨st, rfl⟩, g9⟩ := g8.cons_inv
  obtain ⟨u9, us, rfl, ⟨f0, rfl, _⟩, g10⟩ := g9.cons_inv
  obtain ⟨u10, us, rfl, ⟨f1, rfl, _⟩, g11⟩ := g10.cons_inv
  obtain ⟨u11, us, rfl, ⟨f2, rfl, _⟩, g12⟩ := g11.cons_inv
  obtain ⟨u12, us, rfl, ⟨f3, rfl, _⟩, g13⟩ := g12.cons_inv
  obtain ⟨u13, us, rfl, ⟨f4, rfl, _⟩, g14⟩ := g13.cons_inv
  obtain ⟨u14, us, rfl, ⟨f5, rfl, _⟩, g15⟩ := g14.cons_inv
  obtain ⟨u15, us, rfl, ⟨f6, rfl, _⟩, g16⟩ := g15.cons_inv
  obtain ⟨u16, us, rfl, ⟨b0, rfl, _⟩, g17⟩ := g16.cons_inv
  obtain ⟨u17, us, rfl, ⟨b1, rfl, _⟩, g18⟩ := g17.cons_inv
  obtain ⟨u18, us, rfl, ⟨b2, rfl, _⟩, g19⟩ := g18.cons_inv
  obtain ⟨u19, us, rfl, ⟨b3, rfl, _⟩, g20⟩ := g19.cons_inv
  obtain ⟨u20, us, rfl, ⟨b4, rfl, _⟩, g21⟩ := g20.cons_inv
  obtain ⟨u21, us, rfl, ⟨b5, rfl, _⟩, g22⟩ := g21.cons_inv
  obtain ⟨u22, us, rfl, ⟨b6, rfl, _⟩, g23⟩ := g22.cons_inv
  obtain ⟨u23, us, rfl, ⟨dt, rfl⟩, g24⟩ := g23.cons_inv
  obtain ⟨u24, us, rfl, ⟨dw, rfl⟩, g25⟩ := g24.cons_inv
  obtain ⟨u25, us, rfl, ⟨df, rfl, _⟩, g26⟩ := g25.cons_inv
  obtain ⟨u26, us, rfl, ⟨bl, rfl⟩, g27⟩ := g26.cons_inv
  obtain ⟨u27, us, rfl, ⟨r0, rfl, _⟩, g28⟩ := g27.cons_inv
  obtain ⟨u28, us, rfl, ⟨r1, rfl, _⟩, g29⟩ := g28.cons_inv
  obtain ⟨u29, us, rfl, ⟨r2, rfl, _⟩, g30⟩ := g29.cons_inv
  obtain ⟨u30, us, rfl, ⟨a0, rfl, _⟩, g31⟩ := g30.cons_inv
  obtain ⟨u31, us, rfl, ⟨a1, rfl, _⟩, g32⟩ := g31.cons_inv
  obtain ⟨u32, us, rfl, ⟨a2, rfl, _⟩, g33⟩ := g32.cons_inv
  obtain ⟨u33, us, rfl, ⟨k0, rfl, _⟩, g34⟩ := g33.cons_inv
  obtain ⟨u34, us, rfl, ⟨k1, rfl, _⟩, g35⟩ := g34.cons_inv
  obtain ⟨u35, us, rfl, ⟨k2, rfl, _⟩, g36⟩ := g35.cons_inv
  obtain ⟨u36, us, rfl, ⟨k3, rfl, _⟩, g37⟩ := g36.cons_inv
  obtain ⟨u37, us, rfl, ⟨m0, rfl⟩, g38⟩ := g37.cons_inv
  obtain ⟨u38, us, rfl, ⟨m1, rfl⟩, g39⟩ := g38.cons_inv
  obtain ⟨u39, us, rfl, ⟨m2, rfl⟩, g40⟩ := g39.cons_inv
  obtain ⟨u40, us, rfl, ⟨m3, rfl⟩, g41⟩ := g40.cons_inv
  obtain ⟨o, us, rfl, ho, g42⟩ := g41.cons_inv
  have := g42.nil_inv
  subst this
  exact ⟨W, H, d, ⟨sc, x, y, w, h1, st, ⟨f0, f1, f2, f3, f4, f5, f6⟩, ⟨b0, b1, b2, b3, b4, b5, b6⟩, dt, dw, df, bl, ⟨r0, r1, r2⟩, ⟨a0, a1, a2⟩, ⟨k0, k1, k2, k3⟩, m0, m1, m2, m3⟩, o, rfl, ho⟩
def WkAt (w : World) (b : Nat) (W H : Int) (d : Bool) (s : St) (o : Value) : Prop := w.heap[b]? = some (.cells (wkC W H d s o).toArray 91 (0, 0))
theorem st_len (s : St) : s.C.length = 38 := rfl
theorem WkAt.loadS {w : World} {b : Nat} {W H : Int} {d : Bool} {s : St} {o : Value} (h : WkAt w b W H d s o) : (@Classical.epsilon _ neV (LdP 42 (.pointer (some ⟨b, 3, none⟩)))).run Try.prog w = .ok (.agg s.C.toArray) w :=
  ld_ok _ (range_cells h (fun j v hv => by
    have hj : j < 38 := by have := (List.getElem?_eq_some_iff.1 hv).1; rwa [st_len] at this
    unfold wkC
    rw [List.append_assoc, List.getElem?_append_right (by simp), List.getElem?_append_left (by rw [st_len]; simp; omega)]
    simpa using hv)) Try.underlying42 rfl rfl
def WkP (T : TypeId) (v : Value) (s : Sem Value) : Prop := Instr.loadAt T v = s
theorem Ld_Wk (v : Value) : Instr.loadAt 91 v = @Classical.epsilon _ neV (LdP 91 v) := Ld_fold _ _
theorem WkAt.load {w : World} {b : Nat} {W H : Int} {d : Bool} {s : St} {o : Value} (h : WkAt w b W H d s o) : (@Classical.epsilon _ neV (LdP 91 (.pointer (some ⟨b, 0, none⟩)))).run Try.prog w = .ok (.agg (wkC W H d s o).toArray) w :=
  ld_ok _ (range_cells h (fun j v hv => by simpa using hv)) Try.underlying91 rfl (by kernel_rfl)
/-- The side of a work's planes. -/
def sideN (x : Int) : Nat := 1 + (x % 18446744073709551616 % 40).toNat
theorem sideN_in (x : Int) : 1 ≤ sideN x ∧ sideN x ≤ 40 := by unfold sideN; omega
theorem side_w (x : Int) : wrap64 (1 + wrap64 ((IntKind.u64.wrap x).tmod 40)) = (sideN x : Nat) := by
  have h1 : IntKind.u64.wrap x = x % 18446744073709551616 := rfl
  have h2 : 0 ≤ x % 18446744073709551616 := by omega
  rw [h1, Int.tmod_eq_emod_of_nonneg h2]
  unfold sideN wrap64
  omega
section
attribute [local go_sem ↓] Ld_St Ld_Wk
set_option maxHeartbeats 4000000 in
theorem planes_any (W H : Int) (d : Bool) (s : St) (o : Value) (w : World) : Calls Try.prog 41 #[.agg (wkC W H d s o).toArray] w fun e w' => ∃ B : Pb, e = .returned (.pointer (some ⟨B.p, 0, none⟩)) ∧ w.heap.size ≤ B.p ∧ w.heap.size ≤ B.c ∧ w.heap.size ≤ B.d ∧ w.heap.size ≤ B.m ∧ PlAt w' B (plZ (sideN W) (sideN H) 1 d d) ∧ Ext w w' := by
  have hw := sideN_in W
  have hh := sideN_in H
  have hm : mayV (sideN W : Nat) (sideN H : Nat) (1 : Nat) = true := by simp [mayV]; omega
  have HN : Hid (∀ w, Calls Try.prog 13 #[.int .i64 (sideN W : Nat), .int .i64 (sideN H : Nat), .int .i64 1, .bool d, .bool d] w fun e w' => ∃ B : Pb, e = .returned (.tuple #[.pointer (some ⟨B.p, 0, none⟩), .int .i64 0]) ∧ w.heap.size ≤ B.p ∧ w.heap.size ≤ B.c ∧ w.heap.size ≤ B.d ∧ w.heap.size ≤ B.m ∧ PlAt w' B (plZ (sideN W) (sideN H) 1 d d) ∧ Ext w w') := Lib.hid fun w => newp_any (sideN W) (sideN H) 1 d d w hm
  go_enter Try.func41, Try.ntmps41
  go_upto_region 1 with fail
  obtain ⟨w1, hw1, h1, hx1⟩ : ∃ w1, w.alloc (.cells (wkC W H d s o).toArray 91) = w1 ∧ WkAt w1 w.heap.size W H d s o ∧ Ext w w1 := ⟨_, rfl, heap_alloc_new _ _, (Ext.refl _).alloc _⟩
  rw [hw1]
  have c0 : w1.cell? ⟨w.heap.size, 0, none⟩ = some (.int .i64 W) := cell_of_heap h1 rfl
  have c1 : w1.cell? ⟨w.heap.size, 1, none⟩ = some (.int .i64 H) := cell_of_heap h1 rfl
  have c2 : w1.cell? ⟨w.heap.size, 2, none⟩ = some (.bool d) := cell_of_heap h1 rfl
  have n1 := heap_lt h1
  have hs1 := hx1.size
  have HX1 := Lib.hid hx1
  clear h1 hx1 hw1
  have s1 := side_w W
  have s2 := side_w H
  go_wp2_with (go_at_call 13; refine (HN.out _).mono ?_; rintro _ w2 ⟨B, rfl, hb⟩)
  go_ret
  obtain ⟨b1, b2, b3, b4, b5, b6⟩ := hb
  exact ⟨B, rfl, by omega, by omega, by omega, by omega, b5, HX1.out.trans b6⟩
end
end Go.Proofs.Ytgdcdkajicgliaa
namespace Go.Proofs.Ytgdcdkajicgliaa
open Go.RowKit
set_option linter.unusedVariables false
set_option maxRecDepth 100000

theorem sides_any (B : Pb) (P : Pl) (w : World) (h : PlAt w B P) : Calls Try.prog 22 #[.pointer (some ⟨B.p, 0, none⟩)] w fun e w' => e = .returned (.tuple #[.int .i64 P.W, .int .i64 P.H]) ∧ Ext w w' := by
  have c0 : w.cell? ⟨B.p, 0, none⟩ = some (.int .i64 P.W) := cell_of_heap h.p rfl
  have c1 : w.cell? ⟨B.p, 1, none⟩ = some (.int .i64 P.H) := cell_of_heap h.p rfl
  have n0 := heap_lt h.p
  clear h
  go_enter Try.func22, Try.ntmps22
  go_wp2
  all_goals go_region_with fail
  all_goals go_wp2_with fail
  all_goals go_ret2
  all_goals exact ⟨rfl, (Ext.refl _).drew⟩
theorem tile_nil (x y : Int) (w : World) : Calls Try.prog 44 #[.pointer none, .int .i64 x, .int .i64 y] w fun e w' => e = .returned (.tuple #[.int .i64 0, .int .i64 1]) ∧ w = w' := by
  go_enter Try.func44, Try.ntmps44
  go_wp2
  go_ret2
  exact ⟨rfl, rfl⟩
theorem tiles_nil (w : World) : Calls Try.prog 43 #[.pointer none] w fun e w' => e = .returned (.int .i64 0) ∧ w = w' := by
  go_enter Try.func43, Try.ntmps43
  go_wp2
  go_ret
  exact ⟨rfl, rfl⟩
theorem len_nil (w : World) : Calls Try.prog 46 #[.pointer none] w fun e w' => e = .returned (.int .i64 0) ∧ w = w' := by
  go_enter Try.func46, Try.ntmps46
  go_wp2
  go_ret
  exact ⟨rfl, rfl⟩
theorem add_nil (v : Value) (w : World) : Calls Try.prog 45 #[.pointer none, v] w fun e w' => e = .returned (.int .i64 1) ∧ w = w' := by
  go_enter Try.func45, Try.ntmps45
  go_wp2
  go_step3
  go_wp2
  simp only [Exit.noGoto]
  go_ret
  exact ⟨rfl, rfl⟩
theorem list_nil (w : World) : Calls Try.prog 51 #[.pointer none, .int .i64 0] w fun e w' => e = .returned (.func (.func 82) #[] #[.pointer (some ⟨w.heap.size, 0, none⟩)]) ∧ w'.heap[w.heap.size]? = some (.cells #[.slice none 0 0] 92 (0, 0)) ∧ Ext w w' := by
  go_enter Try.func51, Try.ntmps51
  go_wp2_with (go_at_call 43; refine (tiles_nil _).mono ?_; rintro _ _ ⟨rfl, rfl⟩)
  go_ret
  exact ⟨rfl, heap_alloc_new _ _, (Ext.refl _).alloc _⟩
theorem paint_nil (x : Option Addr) (s : St) (o : Value) (w : World) : Calls Try.prog 47 #[.pointer none, .pointer x, .agg s.C.toArray, o] w fun e w' => e = .returned (.tuple #[.int .i64 0, .int .i64 1]) ∧ Ext w w' := by
  go_enter Try.func47, Try.ntmps47
  go_wp2
  go_ret2
  exact ⟨rfl, ((Ext.refl _).alloc _).alloc _⟩
theorem whole_nil (s : St) (v : Value) (w : World) : Calls Try.prog 50 #[.pointer none, .agg s.C.toArray, v] w fun e w' => e = .returned (.tuple #[.int .i64 0, .int .i64 1]) ∧ Ext w w' := by
  go_enter Try.func50, Try.ntmps50
  go_wp2
  go_ret2
  exact ⟨rfl, (Ext.refl _).alloc _⟩
theorem paint_nilp (p : Nat) (s : St) (o : Value) (w : World) : Calls Try.prog 47 #[.pointer (some ⟨p, 0, none⟩), .pointer none, .agg s.C.toArray, o] w fun e w' => e = .returned (.tuple #[.int .i64 0, .int .i64 1]) ∧ Ext w w' := by
  go_enter Try.func47, Try.ntmps47
  go_upto_region 1 with fail
  obtain ⟨w2, e2, h1, h2, hx⟩ := heap2x w (.cells #[.pointer none] 29) (.cells s.C.toArray 42)
  rw [e2]
  have c1 : w2.cell? ⟨w.heap.size, 0, none⟩ = some (.pointer none) := cell_of_heap h1 rfl
  have n1 := heap_lt h1
  go_wp2_with fail
  go_ret2
  exact ⟨rfl, hx⟩
theorem paint_sides (p H : Nat) (sl : Value) (n : Int) (B : Pb) (P : Pl) (s : St) (o : Value) (w : World) (hb : BAt w p 41 H sl n) (hp : PlAt w B P) (hne : P.W ≤ 40) : Calls Try.prog 47 #[.pointer (some ⟨p, 0, none⟩), .pointer (some ⟨B.p, 0, none⟩), .agg s.C.toArray, o] w fun e w' => e = .returned (.tuple #[.int .i64 0, .int .i64 2]) ∧ Ext w w' := by
  have HB := Lib.hid hb
  have HPP := Lib.hid hp
  have hg : ((P.W : Int) != 41) = true := by simp; omega
  go_enter Try.func47, Try.ntmps47
  go_upto_region 1 with fail
  obtain ⟨w2, e2, h1, h2, hx⟩ := heap2x w (.cells #[.pointer (some ⟨B.p, 0, none⟩)] 29) (.cells s.C.toArray 42)
  rw [e2]
  have c1 : w2.cell? ⟨w.heap.size, 0, none⟩ = some (.pointer (some ⟨B.p, 0, none⟩)) := cell_of_heap h1 rfl
  have n1 := heap_lt h1
  have HX := Lib.hid hx
  clear hb hp e2 hx h1 h2
  go_wp2_with (go_at_call 22; refine (sides_any B P _ (HPP.out.ext HX.out)).mono ?_; rintro _ w3 ⟨rfl, hx3⟩; have hb3 := HB.out.ext (HX.out.trans hx3); have d0 : w3.cell? ⟨p, 0, none⟩ = some (.int .i64 41) := cell_of_heap hb3 rfl; have n3 := heap_lt hb3)
  go_ret2
  exact ⟨rfl, HX.out.trans hx3⟩
end Go.Proofs.Ytgdcdkajicgliaa
