/- Contract of ops' clamp. Conditions: each theorem's own premises. -/
import Derived.Test.YtgdcdkajicgliaaOps10
namespace Go.Proofs.Ytgdcdkajicgliaa
open Go.RowKit
set_option linter.unusedVariables false
set_option maxRecDepth 100000
set_option linter.unusedSimpArgs false
attribute [local go_sem] idxV0 idxV1 idxV2 idxV3

def V4.cl (v : V4) : V4 := ⟨clV v.a, clV v.b, clV v.c, clV v.d⟩
def VAt (w : World) (b : Nat) (v : V4) : Prop := w.heap[b]? = some (.cells v.C.toArray 26 (0, 0))
theorem VAt.load {w : World} {b : Nat} {v : V4} (h : VAt w b v) : (@Classical.epsilon _ neV (LdP 26 (.pointer (some ⟨b, 0, none⟩)))).run Try.prog w = .ok (.agg #[.int .i32 v.a, .int .i32 v.b, .int .i32 v.c, .int .i32 v.d]) w :=
  ld_ok _ (range_cells h (fun j v hv => by rw [Nat.zero_add]; exact hv)) Try.underlying26 rfl rfl
theorem VAt.ext {w w' : World} {b : Nat} {v : V4} (h : VAt w b v) (x : Ext w w') : VAt w' b v := x.heap h
theorem VAt.chg {M : List Nat} {w w' : World} {b : Nat} {v : V4} (h : VAt w b v) (x : Chg M w w') (hm : b ∉ M) : VAt w' b v := x.heap h hm
theorem VAt.cell {w : World} {b : Nat} {v : V4} (h : VAt w b v) : w.cell? ⟨b, 0, none⟩ = some (.int .i32 v.a) ∧ w.cell? ⟨b, 1, none⟩ = some (.int .i32 v.b) ∧ w.cell? ⟨b, 2, none⟩ = some (.int .i32 v.c) ∧ w.cell? ⟨b, 3, none⟩ = some (.int .i32 v.d) :=
  ⟨cell_of_heap h rfl, cell_of_heap h rfl, cell_of_heap h rfl, cell_of_heap h rfl⟩
theorem VAt.set0 {w : World} {b : Nat} {v : V4} (h : VAt w b v) (x : Int) : VAt (w.setCell ⟨b, 0, none⟩ (.int .i32 x)) b { v with a := x } := heap_set (k := 0) (u := .int .i32 x) h
theorem VAt.set1 {w : World} {b : Nat} {v : V4} (h : VAt w b v) (x : Int) : VAt (w.setCell ⟨b, 1, none⟩ (.int .i32 x)) b { v with b := x } := heap_set (k := 1) (u := .int .i32 x) h
theorem VAt.set2 {w : World} {b : Nat} {v : V4} (h : VAt w b v) (x : Int) : VAt (w.setCell ⟨b, 2, none⟩ (.int .i32 x)) b { v with c := x } := heap_set (k := 2) (u := .int .i32 x) h
theorem VAt.set3 {w : World} {b : Nat} {v : V4} (h : VAt w b v) (x : Int) : VAt (w.setCell ⟨b, 3, none⟩ (.int .i32 x)) b { v with d := x } := heap_set (k := 3) (u := .int .i32 x) h
def StP (T : TypeId) (v u : Value) (s : Sem Unit) : Prop := Instr.storeAt T v u = s
theorem neU : Nonempty (Sem Unit) := ⟨pure ()⟩
theorem St_fold (T : TypeId) (v u : Value) : Instr.storeAt T v u = @Classical.epsilon _ neU (StP T v u) := Classical.epsilon_spec (p := StP T v u) ⟨_, rfl⟩
theorem St_V4 (v u : Value) : Instr.storeAt 26 v u = @Classical.epsilon _ neU (StP 26 v u) := St_fold _ _ _
theorem St_Ce (v u : Value) : Instr.storeAt 45 v u = @Classical.epsilon _ neU (StP 45 v u) := St_fold _ _ _
theorem Ld_Ce (v : Value) : Instr.loadAt 45 v = @Classical.epsilon _ neV (LdP 45 v) := Ld_fold _ _
theorem st_ok {w : World} {b : Nat} (T : TypeId) {T0 : TypeId} {cs cells : Array Value} (h : w.heap[b]? = some (.cells cs T0 (0, 0))) (hl : cells.size = cs.size) (hi : (Try.prog.info? T).map (·.size) = some cells.size) (h1 : cells.all (·.oneCell') = true) :
    (@Classical.epsilon _ neU (StP T (.pointer (some ⟨b, 0, none⟩)) (.agg cells))).run Try.prog w = .ok () (w.setCells b 0 cells.toList) := by
  rw [← St_fold]
  exact run_storeAt_mid w b 0 T cells (by rw [hl]; exact there_whole h) hi h1
theorem VAt.store {w : World} {b : Nat} {v : V4} (h : VAt w b v) (u : V4) : (@Classical.epsilon _ neU (StP 26 (.pointer (some ⟨b, 0, none⟩)) (.agg #[.int .i32 u.a, .int .i32 u.b, .int .i32 u.c, .int .i32 u.d]))).run Try.prog w = .ok () (w.setCells b 0 u.C) := st_ok _ h rfl rfl (by simp [Value.oneCell'])
theorem VAt.stored {w : World} {b : Nat} {v : V4} (h : VAt w b v) (u : V4) : VAt (w.setCells b 0 u.C) b u := heap_setCells_whole h u.C.toArray rfl
def CAt (w : World) (b : Nat) (c : Ce) : Prop := w.heap[b]? = some (.cells c.C.toArray 45 (0, 0))
theorem CAt.store {w : World} {b : Nat} {c : Ce} (h : CAt w b c) (u : Ce) : (@Classical.epsilon _ neU (StP 45 (.pointer (some ⟨b, 0, none⟩)) (.agg #[.int .i32 u.v.a, .int .i32 u.v.b, .int .i32 u.v.c, .int .i32 u.v.d, .int .i32 u.dep, .int .i64 u.sten]))).run Try.prog w = .ok () (w.setCells b 0 u.C) := st_ok _ h rfl rfl (by simp [Value.oneCell'])
theorem CAt.stored {w : World} {b : Nat} {c : Ce} (h : CAt w b c) (u : Ce) : CAt (w.setCells b 0 u.C) b u := heap_setCells_whole h u.C.toArray rfl
theorem CAt.load {w : World} {b : Nat} {c : Ce} (h : CAt w b c) : (@Classical.epsilon _ neV (LdP 45 (.pointer (some ⟨b, 0, none⟩)))).run Try.prog w = .ok (.agg #[.int .i32 c.v.a, .int .i32 c.v.b, .int .i32 c.v.c, .int .i32 c.v.d, .int .i32 c.dep, .int .i64 c.sten]) w :=
  ld_ok _ (range_cells h (fun j v hv => by rw [Nat.zero_add]; exact hv)) Try.underlying45 rfl rfl
theorem CAt.loadV {w : World} {b : Nat} {c : Ce} (h : CAt w b c) : (@Classical.epsilon _ neV (LdP 26 (.pointer (some ⟨b, 0, none⟩)))).run Try.prog w = .ok (.agg c.v.C.toArray) w := ce_loadV h
theorem CAt.ext {w w' : World} {b : Nat} {c : Ce} (h : CAt w b c) (x : Ext w w') : CAt w' b c := x.heap h
theorem CAt.chg {M : List Nat} {w w' : World} {b : Nat} {c : Ce} (h : CAt w b c) (x : Chg M w w') (hm : b ∉ M) : CAt w' b c := x.heap h hm
theorem heap_two (w : World) (A B : Obj) : ((w.alloc A).alloc B).heap[w.heap.size]? = some A ∧ ((w.alloc A).alloc B).heap[w.heap.size + 1]? = some B := by
  refine ⟨by rw [heap_alloc_old (w.alloc A) B (by simp), heap_alloc_new], ?_⟩
  have := heap_alloc_new (w.alloc A) B
  simpa using this
attribute [local go_sem ↓] Ld_V4 St_V4
def clStep (v : V4) : Nat → V4
  | 0 => v
  | 1 => { v with a := clV v.a }
  | 2 => { v with a := clV v.a, b := clV v.b }
  | 3 => { v with a := clV v.a, b := clV v.b, c := clV v.c }
  | _ => v.cl
set_option maxHeartbeats 2000000 in
set_option maxRecDepth 20000 in
theorem clamp_any (v : V4) (w : World) : Calls Try.prog 119 #[.agg v.C.toArray] w fun e w' => e = .returned (.agg v.cl.C.toArray) ∧ Ext w w' := by
  go_enter Try.func119, Try.ntmps119
  go_upto_region 1 with fail
  obtain ⟨w2, hw2e, hv, hr, hx2, hs2⟩ : ∃ w2, (w.alloc (.cells v.C.toArray 26)).alloc (.cells #[.int .i32 0, .int .i32 0, .int .i32 0, .int .i32 0] 26) = w2 ∧ VAt w2 w.heap.size v ∧ VAt w2 (w.heap.size + 1) ⟨0, 0, 0, 0⟩ ∧ Ext w w2 ∧ w2.heap.size = w.heap.size + 2 :=
    ⟨_, rfl, (heap_two _ _ _).1, (heap_two _ _ _).2, ((Ext.refl _).alloc _).alloc _, by rw [World.size_alloc, World.size_alloc]⟩
  rw [hw2e]
  have hld := hv.load
  have hlt := heap_lt hv
  have HR := Lib.hid hr
  have HX := Lib.hid hx2
  have hlt2 := heap_lt hr
  have hbase : w.heap.size ≤ w.heap.size := Nat.le_refl _
  have HB := Lib.hid hbase
  clear hr hx2 hw2e hs2 hbase
  generalize hb0 : w.heap.size = b0 at hlt hld hv hlt2 HR ⊢
  have HB0 := Lib.hid hb0
  clear hb0
  go_wp2_with fail
  clear hld
  go_loopw [6] (fun i wq => ∃ m : Nat, (m = 0 ∨ m = 1 ∨ m = 2 ∨ m = 3 ∨ m = 4) ∧ i = .int .i64 m ∧ VAt wq b0 (clStep v m) ∧ Chg [b0] w2 wq) (fun i _ => (4 - intOf i).toNat)
  case atStart => exact ⟨0, by decide, rfl, hv, Chg.refl _ _⟩
  case round =>
    clear hv
    obtain ⟨m, hm, rfl, hv, hch⟩ := hrel
    rcases hm with rfl | rfl | rfl | rfl | rfl
    · have hcl := VAt.set0 hv (clV (v.a))
      have HCL := Lib.hid hcl
      have HCH := Lib.hid (hch.setCell (p := ⟨b0, 0, none⟩) (by simp) (.int .i32 (clV v.a)))
      have hlr := heap_lt hv
      have c0 := (hv.cell).1
      have fz : wr.frozen? ⟨b0, 0, none⟩ = false := free_of_heap hv
      have hn2 := hch.size
      clear hcl hv hch
      go_wp2_with (go_at_call 100; refine (clampfix_any _ _ _ _).mono ?_; rintro _ _ ⟨rfl, rfl⟩)
      go_roundw
      case rel => exact ⟨1, by decide, rfl, HCL.out, HCH.out⟩
      case measure => simp [intOf]
    · have hcl := VAt.set1 hv (clV (v.b))
      have HCL := Lib.hid hcl
      have HCH := Lib.hid (hch.setCell (p := ⟨b0, 1, none⟩) (by simp) (.int .i32 (clV v.b)))
      have hlr := heap_lt hv
      have c0 := (hv.cell).2.1
      have fz : wr.frozen? ⟨b0, 1, none⟩ = false := free_of_heap hv
      have hn2 := hch.size
      clear hcl hv hch
      go_wp2_with (go_at_call 100; refine (clampfix_any _ _ _ _).mono ?_; rintro _ _ ⟨rfl, rfl⟩)
      go_roundw
      case rel => exact ⟨2, by decide, rfl, HCL.out, HCH.out⟩
      case measure => simp [intOf]
    · have hcl := VAt.set2 hv (clV (v.c))
      have HCL := Lib.hid hcl
      have HCH := Lib.hid (hch.setCell (p := ⟨b0, 2, none⟩) (by simp) (.int .i32 (clV v.c)))
      have hlr := heap_lt hv
      have c0 := (hv.cell).2.2.1
      have fz : wr.frozen? ⟨b0, 2, none⟩ = false := free_of_heap hv
      have hn2 := hch.size
      clear hcl hv hch
      go_wp2_with (go_at_call 100; refine (clampfix_any _ _ _ _).mono ?_; rintro _ _ ⟨rfl, rfl⟩)
      go_roundw
      case rel => exact ⟨3, by decide, rfl, HCL.out, HCH.out⟩
      case measure => simp [intOf]
    · have hcl := VAt.set3 hv (clV (v.d))
      have HCL := Lib.hid hcl
      have HCH := Lib.hid (hch.setCell (p := ⟨b0, 3, none⟩) (by simp) (.int .i32 (clV v.d)))
      have hlr := heap_lt hv
      have c0 := (hv.cell).2.2.2
      have fz : wr.frozen? ⟨b0, 3, none⟩ = false := free_of_heap hv
      have hn2 := hch.size
      clear hcl hv hch
      go_wp2_with (go_at_call 100; refine (clampfix_any _ _ _ _).mono ?_; rintro _ _ ⟨rfl, rfl⟩)
      go_roundw
      case rel => exact ⟨4, by decide, rfl, HCL.out, HCH.out⟩
      case measure => simp [intOf]
    · have hr2 := HR.out.chg hch (by simp)
      have hlr := heap_lt hv
      have hlr2 := heap_lt hr2
      have hld : (@Classical.epsilon _ neV (LdP 26 (.pointer (some ⟨b0, 0, none⟩)))).run Try.prog wr = .ok (.agg #[.int .i32 (clV v.a), .int .i32 (clV v.b), .int .i32 (clV v.c), .int .i32 (clV v.d)]) wr := hv.load
      have hst := hr2.store v.cl
      have hsd := Lib.hid (hr2.stored v.cl)
      have HXF := Lib.hid (HX.out.chgTrans (Chg.trans (hch.mono (N := [b0, b0 + 1]) (by simp)) (chg_setCells (b := b0 + 1) (by simp) v.cl.C 0 wr (Chg.refl _ _))) (by rw [HB0.out]; simp))
      clear hr2 hch hv
      simp only [V4.cl] at hst
      go_wp2_with fail
      have hload := run_loadVar_whole (P := Try.prog) 26 _ hsd.out Try.underlying26 rfl rfl
      refine bodyPost_ret (results_cell1 rfl _ _ _ _ rfl hload) rfl ?_
      exact ⟨rfl, HXF.out⟩
end Go.Proofs.Ytgdcdkajicgliaa
