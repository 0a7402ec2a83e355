/- Contracts of frame's cells, of Clear where it refuses; what clearing is. Conditions: each theorem's own premises. -/
import Derived.Test.YtgdcdkajicgliaaFra5
import Derived.Test.YtgdcdkajicgliaaOps8
namespace Go.Proofs.Ytgdcdkajicgliaa
open Go.RowKit
set_option linter.unusedVariables false
set_option maxRecDepth 100000

theorem cells_any (W H : Nat) (b : Bx) (w : World) : Calls Try.prog 60 #[.agg #[.int .i64 W, .int .i64 H], .agg b.C] w fun e w' => ∃ s2 s3, e = .returned (.func (.func 89) #[] #[.pointer (some ⟨s2, 0, none⟩), .pointer (some ⟨s3, 0, none⟩)]) ∧ w.heap.size ≤ s2 ∧ w.heap.size ≤ s3 ∧ w'.heap[s2]? = some (.cells #[.int .i64 W, .int .i64 H] 117 (0, 0)) ∧ w'.heap[s3]? = some (.cells b.C 35 (0, 0)) ∧ Ext w w' := by
  obtain ⟨x, y, bw, bh⟩ := b
  go_enter Try.func60, Try.ntmps60
  go_wp2
  go_ret
  exact ⟨_, _, rfl, Nat.le_refl _, Nat.le_succ _, (heap2x w _ _).elim (fun w2 h => by obtain ⟨rfl, h1, h2, h3⟩ := h; exact h1), (heap2x w _ _).elim (fun w2 h => by obtain ⟨rfl, h1, h2, h3⟩ := h; exact h2), ((Ext.refl _).alloc _).alloc _⟩
/-- A cell, cleared. -/
def clrC (s : St) (what : Nat) (color : V4) (dep sten : Int) (c : Ce) : Ce :=
  ⟨if what % 2 = 1 then (⟨if s.m0 then color.cl.a else c.v.a, if s.m1 then color.cl.b else c.v.b, if s.m2 then color.cl.c else c.v.c, if s.m3 then color.cl.d else c.v.d⟩ : V4) else c.v, if what / 2 % 2 = 1 ∧ s.dw = true then clV dep else c.dep, if what / 4 % 2 = 1 then bits .or .i64 (bits .andNot .i64 c.sten s.f.write) (bits .and .i64 sten s.f.write) else c.sten⟩
/-- The box that is cleared. -/
def clrX (s : St) (P : Pl) : Bx := if s.sc then ⟨s.x, s.y, s.w, s.h⟩ else ⟨0, 0, P.W, P.H⟩
def clrS (s : St) (what : Nat) (color : V4) (dep sten : Int) (P : Pl) (q : Nat × Nat) : Pl := layV P (q.2 * P.W + q.1) (clrC s what color dep sten (cellV P (q.2 * P.W + q.1)))
/-- Planes, cleared. -/
def clrV (s : St) (what : Nat) (color : V4) (dep sten : Int) (P : Pl) : Pl := (boxB (clrX s P) P.W P.H).foldl (clrS s what color dep sten) P
theorem heap6x (w : World) (A B C D E F : Obj) : ∃ w6, (((((w.alloc A).alloc B).alloc C).alloc D).alloc E).alloc F = w6 ∧ w6.heap[w.heap.size]? = some A ∧ w6.heap[w.heap.size + 1]? = some B ∧ w6.heap[w.heap.size + 1 + 1]? = some C ∧ w6.heap[w.heap.size + 1 + 1 + 1]? = some D ∧ w6.heap[w.heap.size + 1 + 1 + 1 + 1]? = some E ∧ w6.heap[w.heap.size + 1 + 1 + 1 + 1 + 1]? = some F ∧ Ext w w6 := by
  have x1 : ∀ (v : World) (X : Obj), Ext v (v.alloc X) := fun v X => (Ext.refl _).alloc _
  have hs : ∀ (v : World) (X : Obj), (v.alloc X).heap.size = v.heap.size + 1 := fun v X => World.size_alloc _ _
  have h1 := heap_alloc_new w A
  have h2 := heap_alloc_new (w.alloc A) B
  have h3 := heap_alloc_new ((w.alloc A).alloc B) C
  have h4 := heap_alloc_new (((w.alloc A).alloc B).alloc C) D
  have h5 := heap_alloc_new ((((w.alloc A).alloc B).alloc C).alloc D) E
  have h6 := heap_alloc_new (((((w.alloc A).alloc B).alloc C).alloc D).alloc E) F
  simp only [hs] at h2 h3 h4 h5 h6
  have y5 := x1 (((((w.alloc A).alloc B).alloc C).alloc D).alloc E) F
  have y4 := (x1 ((((w.alloc A).alloc B).alloc C).alloc D) E).trans y5
  have y3 := (x1 (((w.alloc A).alloc B).alloc C) D).trans y4
  have y2 := (x1 ((w.alloc A).alloc B) C).trans y3
  have y1 := (x1 (w.alloc A) B).trans y2
  exact ⟨_, rfl, y1.heap h1, y2.heap h2, y3.heap h3, y4.heap h4, y5.heap h5, h6, (x1 w A).trans y1⟩
/-- Clear's arguments in their blocks. -/
structure ClAt (w : World) (n pp : Nat) (s : St) (what : Int) (color : V4) (dep sten : Int) : Prop where
  a : w.heap[n]? = some (.cells #[.pointer (some ⟨pp, 0, none⟩)] 29 (0, 0))
  b : StAt w (n + 1) s
  c : w.heap[n + 1 + 1]? = some (.cells #[.int .i64 what] 3 (0, 0))
  d : VAt w (n + 1 + 1 + 1) color
  e : w.heap[n + 1 + 1 + 1 + 1]? = some (.cells #[.int .i32 dep] 24 (0, 0))
  f : w.heap[n + 1 + 1 + 1 + 1 + 1]? = some (.cells #[.int .i64 sten] 3 (0, 0))
theorem ClAt.ext {w w' : World} {n pp : Nat} {s : St} {what dep sten : Int} {color : V4} (h : ClAt w n pp s what color dep sten) (x : Ext w w') : ClAt w' n pp s what color dep sten := ⟨x.heap h.a, x.heap h.b, x.heap h.c, x.heap h.d, x.heap h.e, x.heap h.f⟩
theorem ClAt.chg {M : List Nat} {w w' : World} {n pp : Nat} {s : St} {what dep sten : Int} {color : V4} (h : ClAt w n pp s what color dep sten) (x : Chg M w w') (hM : ∀ k, k ∈ M → k < n) : ClAt w' n pp s what color dep sten := ⟨x.heap h.a (fun hk => by have := hM _ hk; omega), x.heap h.b (fun hk => by have := hM _ hk; omega), x.heap h.c (fun hk => by have := hM _ hk; omega), x.heap h.d (fun hk => by have := hM _ hk; omega), x.heap h.e (fun hk => by have := hM _ hk; omega), x.heap h.f (fun hk => by have := hM _ hk; omega)⟩
section
attribute [local go_sem ↓] Ld_V4 St_V4 Ld_Ce St_Ce Ld_St
theorem clear_nil (s : St) (what dep sten : Int) (color : V4) (w : World) : Calls Try.prog 14 #[.pointer none, .agg s.C.toArray, .int .i64 what, .agg color.C.toArray, .int .i32 dep, .int .i64 sten] w fun e w' => e = .returned (.int .i64 1) ∧ Ext w w' := by
  go_enter Try.func14, Try.ntmps14
  go_upto_region 1 with fail
  obtain ⟨w6, e6, h1, h2, h3, h4, h5, h6, hx6⟩ := heap6x w (.cells #[.pointer none] 29) (.cells s.C.toArray 42) (.cells #[.int .i64 what] 3) (.cells color.C.toArray 26) (.cells #[.int .i32 dep] 24) (.cells #[.int .i64 sten] 3)
  rw [e6]
  have c0 : w6.cell? ⟨w.heap.size, 0, none⟩ = some (.pointer none) := cell_of_heap h1 rfl
  have n0 := heap_lt h1
  clear h2 h3 h4 h5 h6
  go_wp2_with fail
  go_ret
  exact ⟨rfl, hx6⟩
set_option maxHeartbeats 2000000 in
theorem clear_bad (pp : Nat) (s : St) (what dep sten : Int) (color : V4) (hs : stOk s = false) (w : World) : Calls Try.prog 14 #[.pointer (some ⟨pp, 0, none⟩), .agg s.C.toArray, .int .i64 what, .agg color.C.toArray, .int .i32 dep, .int .i64 sten] w fun e w' => e = .returned (.int .i64 340) ∧ Ext w w' := by
  have HCK := Lib.hid (check_any s)
  rw [hs] at HCK
  clear hs
  go_enter Try.func14, Try.ntmps14
  go_upto_region 1 with fail
  obtain ⟨w6, e6, h1, h2, h3, h4, h5, h6, hx6⟩ := heap6x w (.cells #[.pointer (some ⟨pp, 0, none⟩)] 29) (.cells s.C.toArray 42) (.cells #[.int .i64 what] 3) (.cells color.C.toArray 26) (.cells #[.int .i32 dep] 24) (.cells #[.int .i64 sten] 3)
  rw [e6]
  have c0 : w6.cell? ⟨w.heap.size, 0, none⟩ = some (.pointer (some ⟨pp, 0, none⟩)) := cell_of_heap h1 rfl
  have n0 := heap_lt h1
  have ls := StAt.load h2
  have HX6 := Lib.hid hx6
  clear h1 h2 h3 h4 h5 h6 hx6
  go_wp2_with (go_at_call 58; refine (HCK.out _).mono ?_; rintro _ w7 ⟨rfl, hx7⟩)
  go_ret
  exact ⟨rfl, HX6.out.trans hx7⟩
set_option maxHeartbeats 2000000 in
theorem clear_arg (pp : Nat) (s : St) (what dep sten : Int) (color : V4) (hs : stOk s = true) (hw : what < 0 ∨ 7 < what) (w : World) : Calls Try.prog 14 #[.pointer (some ⟨pp, 0, none⟩), .agg s.C.toArray, .int .i64 what, .agg color.C.toArray, .int .i32 dep, .int .i64 sten] w fun e w' => e = .returned (.int .i64 2) ∧ Ext w w' := by
  have HCK := Lib.hid (check_any s)
  rw [hs] at HCK
  clear hs
  rcases hw with hw | hw
  all_goals
    go_enter Try.func14, Try.ntmps14
    go_upto_region 1 with fail
    obtain ⟨w6, e6, h1, h2, h3, h4, h5, h6, hx6⟩ := heap6x w (.cells #[.pointer (some ⟨pp, 0, none⟩)] 29) (.cells s.C.toArray 42) (.cells #[.int .i64 what] 3) (.cells color.C.toArray 26) (.cells #[.int .i32 dep] 24) (.cells #[.int .i64 sten] 3)
    rw [e6]
    have c0 : w6.cell? ⟨w.heap.size, 0, none⟩ = some (.pointer (some ⟨pp, 0, none⟩)) := cell_of_heap h1 rfl
    have n0 := heap_lt h1
    have ls := StAt.load h2
    have HX6 := Lib.hid hx6
    have H3 := Lib.hid h3
    clear h1 h2 h3 h4 h5 h6 hx6
    go_wp2_with (go_at_call 58; refine (HCK.out _).mono ?_; rintro _ w7 ⟨rfl, hx7⟩; have c3 : w7.cell? ⟨w.heap.size + 1 + 1, 0, none⟩ = some (.int .i64 what) := cell_of_heap (hx7.heap H3.out) rfl; have n3 := heap_lt (hx7.heap H3.out))
    go_ret
    exact ⟨rfl, HX6.out.trans hx7⟩
end
end Go.Proofs.Ytgdcdkajicgliaa
