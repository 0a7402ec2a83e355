/- How states, fragments and cells come in as arguments; the walks of OpsTurn and OpsMix. Conditions: each theorem's own premises. -/
import Derived.Test.YtagjjgookiodbaaOps21
import Derived.Deep.QuietTactic
import Derived.BigQuiet
namespace Go.Proofs.Ytagjjgookiodbaa
open Go.RowKit
set_option linter.unusedVariables false
set_option linter.unusedSimpArgs false

theorem stIn {W : World} {v : Value} (h : ArgIs Try.prog W 33 v) : ∃ s : St, v = .agg s.C.toArray := by
  obtain ⟨cs, rfl, g0⟩ := h.agg 6 (ls := [.bool, .int .i64, .int .i64, .int .i64, .int .i64, .bool, .int .i64, .int .i64, .int .i64, .int .i64, .int .i64, .int .i64, .int .i64, .int .i64, .int .i64, .int .i64, .int .i64, .int .i64, .int .i64, .int .i64, .bool, .bool, .int .i64, .bool, .int .i64, .int .i64, .int .i64, .int .i64, .int .i64, .int .i64, .int .i32, .int .i32, .int .i32, .int .i32, .bool, .bool, .bool, .bool]) (by kernel_rfl) (by kernel_rfl) (by kernel_rfl)
  obtain ⟨u0, us, rfl, ⟨sc, rfl⟩, g1⟩ := g0.cons_inv
  obtain ⟨u1, us, rfl, ⟨x, rfl, _⟩, g2⟩ := g1.cons_inv
  obtain ⟨u2, us, rfl, ⟨y, rfl, _⟩, g3⟩ := g2.cons_inv
  obtain ⟨u3, us, rfl, ⟨w, rfl, _⟩, g4⟩ := g3.cons_inv
  obtain ⟨u4, us, rfl, ⟨h1, rfl, _⟩, g5⟩ := g4.cons_inv
  obtain ⟨u5, us, rfl, ⟨st, rfl⟩, g6⟩ := g5.cons_inv
  obtain ⟨u6, us, rfl, ⟨f0, rfl, _⟩, g7⟩ := g6.cons_inv
  obtain ⟨u7, us, rfl, ⟨f1, rfl, _⟩, g8⟩ := g7.cons_inv
  obtain ⟨u8, us, rfl, ⟨f2, rfl, _⟩, g9⟩ := g8.cons_inv
  obtain ⟨u9, us, rfl, ⟨f3, rfl, _⟩, g10⟩ := g9.cons_inv
  obtain ⟨u10, us, rfl, ⟨f4, rfl, _⟩, g11⟩ := g10.cons_inv
  obtain ⟨u11, us, rfl, ⟨f5, rfl, _⟩, g12⟩ := g11.cons_inv
  obtain ⟨u12, us, rfl, ⟨f6, rfl, _⟩, g13⟩ := g12.cons_inv
  obtain ⟨u13, us, rfl, ⟨b0, rfl, _⟩, g14⟩ := g13.cons_inv
  obtain ⟨u14, us, rfl, ⟨b1, rfl, _⟩, g15⟩ := g14.cons_inv
  obtain ⟨u15, us, rfl, ⟨b2, rfl, _⟩, g16⟩ := g15.cons_inv
  obtain ⟨u16, us, rfl, ⟨b3, rfl, _⟩, g17⟩ := g16.cons_inv
  obtain ⟨u17, us, rfl, ⟨b4, rfl, _⟩, g18⟩ := g17.cons_inv
  obtain ⟨u18, us, rfl, ⟨b5, rfl, _⟩, g19⟩ := g18.cons_inv
  obtain ⟨u19, us, rfl, ⟨b6, rfl, _⟩, g20⟩ := g19.cons_inv
  obtain ⟨u20, us, rfl, ⟨dt, rfl⟩, g21⟩ := g20.cons_inv
  obtain ⟨u21, us, rfl, ⟨dw, rfl⟩, g22⟩ := g21.cons_inv
  obtain ⟨u22, us, rfl, ⟨df, rfl, _⟩, g23⟩ := g22.cons_inv
  obtain ⟨u23, us, rfl, ⟨bl, rfl⟩, g24⟩ := g23.cons_inv
  obtain ⟨u24, us, rfl, ⟨r0, rfl, _⟩, g25⟩ := g24.cons_inv
  obtain ⟨u25, us, rfl, ⟨r1, rfl, _⟩, g26⟩ := g25.cons_inv
  obtain ⟨u26, us, rfl, ⟨r2, rfl, _⟩, g27⟩ := g26.cons_inv
  obtain ⟨u27, us, rfl, ⟨a0, rfl, _⟩, g28⟩ := g27.cons_inv
  obtain ⟨u28, us, rfl, ⟨a1, rfl, _⟩, g29⟩ := g28.cons_inv
  obtain ⟨u29, us, rfl, ⟨a2, rfl, _⟩, g30⟩ := g29.cons_inv
  obtain ⟨u30, us, rfl, ⟨k0, rfl, _⟩, g31⟩ := g30.cons_inv
  obtain ⟨u31, us, rfl, ⟨k1, rfl, _⟩, g32⟩ := g31.cons_inv
  obtain ⟨u32, us, rfl, ⟨k2, rfl, _⟩, g33⟩ := g32.cons_inv
  obtain ⟨u33, us, rfl, ⟨k3, rfl, _⟩, g34⟩ := g33.cons_inv
  obtain ⟨u34, us, rfl, ⟨m0, rfl⟩, g35⟩ := g34.cons_inv
  obtain ⟨u35, us, rfl, ⟨m1, rfl⟩, g36⟩ := g35.cons_inv
  obtain ⟨u36, us, rfl, ⟨m2, rfl⟩, g37⟩ := g36.cons_inv
  obtain ⟨u37, us, rfl, ⟨m3, rfl⟩, g38⟩ := g37.cons_inv
  have := g38.nil_inv
  subst this
  exact ⟨⟨sc, x, y, w, h1, st, ⟨f0, f1, f2, f3, f4, f5, f6⟩, ⟨b0, b1, b2, b3, b4, b5, b6⟩, dt, dw, df, bl, ⟨r0, r1, r2⟩, ⟨a0, a1, a2⟩, ⟨k0, k1, k2, k3⟩, m0, m1, m2, m3⟩, rfl⟩

theorem vecIn {W : World} {v : Value} (h : ArgIs Try.prog W 30 v) : ∃ s : V4, v = .agg s.C.toArray := by
  obtain ⟨cs, rfl, g0⟩ := h.agg 6 (ls := [.int .i32, .int .i32, .int .i32, .int .i32]) (by kernel_rfl) (by kernel_rfl) (by kernel_rfl)
  obtain ⟨u0, us, rfl, ⟨k0, rfl, _⟩, g1⟩ := g0.cons_inv
  obtain ⟨u1, us, rfl, ⟨k1, rfl, _⟩, g2⟩ := g1.cons_inv
  obtain ⟨u2, us, rfl, ⟨k2, rfl, _⟩, g3⟩ := g2.cons_inv
  obtain ⟨u3, us, rfl, ⟨k3, rfl, _⟩, g4⟩ := g3.cons_inv
  have := g4.nil_inv
  subst this
  exact ⟨⟨k0, k1, k2, k3⟩, rfl⟩

structure Pa where
  f : Fr
  col : V4
  ce : Ce
def Pa.C (p : Pa) : List Value := p.f.C ++ p.col.C ++ p.ce.C

theorem paintIn {W : World} {v : Value} (h : ArgIs Try.prog W 40 v) : ∃ p : Pa, v = .agg p.C.toArray := by
  obtain ⟨cs, rfl, g0⟩ := h.agg 6 (ls := [.int .i64, .int .i64, .int .i32, .int .i32, .bool, .int .i32, .int .i32, .int .i32, .int .i32, .slice 30, .int .i32, .int .i32, .int .i32, .int .i32, .int .i32, .int .i32, .int .i32, .int .i32, .int .i32, .int .i64]) (by kernel_rfl) (by kernel_rfl) (by kernel_rfl)
  obtain ⟨u0, us, rfl, ⟨fx, rfl, _⟩, g1⟩ := g0.cons_inv
  obtain ⟨u1, us, rfl, ⟨fy, rfl, _⟩, g2⟩ := g1.cons_inv
  obtain ⟨u2, us, rfl, ⟨fz, rfl, _⟩, g3⟩ := g2.cons_inv
  obtain ⟨u3, us, rfl, ⟨fi, rfl, _⟩, g4⟩ := g3.cons_inv
  obtain ⟨u4, us, rfl, ⟨ff, rfl⟩, g5⟩ := g4.cons_inv
  obtain ⟨u5, us, rfl, ⟨p0, rfl, _⟩, g6⟩ := g5.cons_inv
  obtain ⟨u6, us, rfl, ⟨p1, rfl, _⟩, g7⟩ := g6.cons_inv
  obtain ⟨u7, us, rfl, ⟨p2, rfl, _⟩, g8⟩ := g7.cons_inv
  obtain ⟨u8, us, rfl, ⟨p3, rfl, _⟩, g9⟩ := g8.cons_inv
  obtain ⟨vs, us, rfl, _, g10⟩ := g9.cons_inv
  obtain ⟨u10, us, rfl, ⟨c0, rfl, _⟩, g11⟩ := g10.cons_inv
  obtain ⟨u11, us, rfl, ⟨c1, rfl, _⟩, g12⟩ := g11.cons_inv
  obtain ⟨u12, us, rfl, ⟨c2, rfl, _⟩, g13⟩ := g12.cons_inv
  obtain ⟨u13, us, rfl, ⟨c3, rfl, _⟩, g14⟩ := g13.cons_inv
  obtain ⟨u14, us, rfl, ⟨d0, rfl, _⟩, g15⟩ := g14.cons_inv
  obtain ⟨u15, us, rfl, ⟨d1, rfl, _⟩, g16⟩ := g15.cons_inv
  obtain ⟨u16, us, rfl, ⟨d2, rfl, _⟩, g17⟩ := g16.cons_inv
  obtain ⟨u17, us, rfl, ⟨d3, rfl, _⟩, g18⟩ := g17.cons_inv
  obtain ⟨u18, us, rfl, ⟨de, rfl, _⟩, g19⟩ := g18.cons_inv
  obtain ⟨u19, us, rfl, ⟨se, rfl, _⟩, g20⟩ := g19.cons_inv
  have := g20.nil_inv
  subst this
  exact ⟨⟨⟨fx, fy, fz, fi, ff, ⟨p0, p1, p2, p3⟩, vs⟩, ⟨c0, c1, c2, c3⟩, ⟨⟨d0, d1, d2, d3⟩, de, se⟩⟩, rfl⟩

structure Tu where
  (how s r wr : Int)
def Tu.C (t : Tu) : List Value := [.int .i64 t.how, .int .i64 t.s, .int .i64 t.r, .int .i64 t.wr]

theorem turnIn {W : World} {v : Value} (h : ArgIs Try.prog W 54 v) : ∃ t : Tu, v = .agg t.C.toArray := by
  obtain ⟨cs, rfl, g0⟩ := h.agg 6 (ls := [.int .i64, .int .i64, .int .i64, .int .i64]) (by kernel_rfl) (by kernel_rfl) (by kernel_rfl)
  obtain ⟨u0, us, rfl, ⟨k0, rfl, _⟩, g1⟩ := g0.cons_inv
  obtain ⟨u1, us, rfl, ⟨k1, rfl, _⟩, g2⟩ := g1.cons_inv
  obtain ⟨u2, us, rfl, ⟨k2, rfl, _⟩, g3⟩ := g2.cons_inv
  obtain ⟨u3, us, rfl, ⟨k3, rfl, _⟩, g4⟩ := g3.cons_inv
  have := g4.nil_inv
  subst this
  exact ⟨⟨k0, k1, k2, k3⟩, rfl⟩


set_option maxHeartbeats 2000000 in
theorem turn_walk (t : Tu) (a b : Int) (w : World) : Calls Try.prog 5 #[.agg t.C.toArray, .int .i64 a, .int .i64 b] w fun e w' => e = .returned (.bool true) ∧ Ext w w' := by
  obtain ⟨K, hK⟩ : ∃ K : Int, (turnV t.how t.s t.r t.wr : Int) = K := ⟨_, rfl⟩
  obtain ⟨B, hB⟩ : ∃ B, cmpV t.how a b = B := ⟨_, rfl⟩
  have HT1 : ∀ w, Calls Try.prog 18 #[.int .i64 t.how, .int .i64 t.s, .int .i64 t.r, .int .i64 t.wr] w fun e w' => e = .returned (.int .i64 K) ∧ w = w' := fun w => by rw [← hK]; exact turn_any _ _ _ _ _
  have HT2 : ∀ w, Calls Try.prog 19 #[.int .i64 t.how, .int .i64 t.s, .int .i64 t.r, .int .i64 t.wr] w fun e w' => e = .returned (.int .i64 K) ∧ w = w' := fun w => by rw [← hK]; exact rturn_any _ _ _ _ _
  have HC1 : ∀ w, Calls Try.prog 20 #[.int .i64 t.how, .int .i64 a, .int .i64 b] w fun e w' => e = .returned (.bool B) ∧ w = w' := fun w => by rw [← hB]; exact compare_any _ _ _ _
  have HC2 : ∀ w, Calls Try.prog 21 #[.int .i64 t.how, .int .i64 a, .int .i64 b] w fun e w' => e = .returned (.bool B) ∧ w = w' := fun w => by rw [← hB]; exact refcompare_any _ _ _ _
  have H1 := Lib.hid HT1
  have H2 := Lib.hid HT2
  have H3 := Lib.hid HC1
  have H4 := Lib.hid HC2
  clear hK hB HT1 HT2 HC1 HC2
  go_enter Try.func5, Try.ntmps5
  go_upto_region 3 with (go_at_call 10; refine (wakes_any _).mono ?_; rintro _ w1 ⟨rfl, hx1⟩)
  have h1 : w1.heap[w.heap.size]? = some (.cells t.C.toArray 54 (0, 0)) := hx1.heap (heap_alloc_new _ _)
  have c0 : w1.cell? ⟨w.heap.size, 0, none⟩ = some (.int .i64 t.how) := cell_of_heap h1 rfl
  have c1 : w1.cell? ⟨w.heap.size, 1, none⟩ = some (.int .i64 t.s) := cell_of_heap h1 rfl
  have c2 : w1.cell? ⟨w.heap.size, 2, none⟩ = some (.int .i64 t.r) := cell_of_heap h1 rfl
  have c3 : w1.cell? ⟨w.heap.size, 3, none⟩ = some (.int .i64 t.wr) := cell_of_heap h1 rfl
  have HX := Lib.hid (((Ext.refl w).alloc (.cells t.C.toArray 54)).trans hx1)
  clear h1 hx1
  go_quiet (first
    | (go_at_call 18; refine quiet_same (H1.out _))
    | (go_at_call 19; refine quiet_same (H2.out _))
    | (go_at_call 20; refine quiet_same (H3.out _))
    | (go_at_call 21; refine quiet_same (H4.out _)))
  go_wp2_with fail
  all_goals go_ret
  all_goals exact ⟨by simp, HX.out.drewN _⟩
end Go.Proofs.Ytagjjgookiodbaa
