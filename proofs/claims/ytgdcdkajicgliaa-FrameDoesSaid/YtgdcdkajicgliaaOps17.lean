/- Contracts of lies, of Apply's own turn, of New; what becomes of a cell, in plain words. Conditions: each theorem's own premises. -/
import Derived.Test.YtgdcdkajicgliaaOps9
namespace Go.Proofs.Ytgdcdkajicgliaa
open Go.RowKit
set_option linter.unusedVariables false
set_option maxRecDepth 100000
set_option linter.unusedSimpArgs false

def ltU (a fr n : Int) : Bool := decide (IntKind.u64.wrap (IntKind.u64.wrap a - IntKind.u64.wrap fr) < IntKind.u64.wrap n)
def liesV (a fr n : Int) : Bool := decide (fr ≤ a) && ltU a fr n
set_option maxHeartbeats 1000000 in
theorem lies_any (a fr n : Int) (w : World) : Calls Try.prog 96 #[.int .i64 a, .int .i64 fr, .int .i64 n] w fun e w' => e = .returned (.bool (liesV a fr n)) ∧ w = w' := by
  by_cases h1 : fr ≤ a
  · have hv := Lib.hid (show liesV a fr n = ltU a fr n by simp [liesV, h1])
    go_enter Try.func96, Try.ntmps96
    go_wp2
    all_goals go_ret
    all_goals rw [hv.out]
    all_goals exact ⟨by simp_all [ltU], rfl⟩
  · have hv := Lib.hid (show liesV a fr n = false by simp [liesV, h1])
    go_enter Try.func96, Try.ntmps96
    go_wp2
    all_goals go_ret
    all_goals rw [hv.out]
    all_goals exact ⟨by simp_all, rfl⟩

def TAt (w : World) (b : Nat) (t : Sten) : Prop := w.heap[b]? = some (.cells t.C.toArray 37 (0, 0))
def turned (on : Bool) (how : Int) (t : Sten) (c : Ce) : Ce := if on then { c with sten := (turnV how c.sten t.rf t.write : Int) } else c
set_option maxHeartbeats 1000000 in
theorem turn1_any (how : Int) (s : St) (t : Sten) (c : Ce) (bs bc bt : Nat) (w : World) (hs : StAt w bs s) (hc : CAt w bc c) (ht : TAt w bt t) :
    Calls Try.prog 97 #[.int .i64 how, .pointer (some ⟨bs, 0, none⟩), .pointer (some ⟨bc, 0, none⟩), .pointer (some ⟨bt, 0, none⟩)] w fun e w' => (∃ u, e = .returned u) ∧ CAt w' bc (turned s.st how t c) ∧ Chg [bc] w w' := by
  have c0 : w.cell? ⟨bs, 5, none⟩ = some (.bool s.st) := cell_of_heap hs rfl
  have c1 : w.cell? ⟨bc, 5, none⟩ = some (.int .i64 c.sten) := cell_of_heap hc rfl
  have c2 : w.cell? ⟨bt, 1, none⟩ = some (.int .i64 t.rf) := cell_of_heap ht rfl
  have c3 : w.cell? ⟨bt, 3, none⟩ = some (.int .i64 t.write) := cell_of_heap ht rfl
  have fz : w.frozen? ⟨bc, 5, none⟩ = false := free_of_heap hc
  have HC := Lib.hid hc
  clear hs ht hc
  cases hb : s.st
  · go_enter Try.func97, Try.ntmps97
    go_wp2
    go_end0
    exact ⟨⟨_, rfl⟩, HC.out, Chg.refl _ _⟩
  · go_enter Try.func97, Try.ntmps97
    go_wp2_with (go_at_call 98; refine (turn_any _ _ _ _ _).mono ?_; rintro _ _ ⟨rfl, rfl⟩)
    go_end0
    exact ⟨⟨_, rfl⟩, heap_set (k := 5) (u := .int .i64 (turnV how c.sten t.rf t.write : Int)) HC.out, (Chg.refl _ _).setCell (by simp) _⟩
def side0 : Sten := ⟨8, 0, 255, 255, 1, 1, 1⟩
def bl0 : Bl := ⟨1, 2, 1⟩
def st0 : St := ⟨false, 0, 0, 0, 0, false, side0, side0, false, true, 2, false, bl0, bl0, ⟨0, 0, 0, 0⟩, true, true, true, true⟩
theorem St_St (v u : Value) : Instr.storeAt 42 v u = @Classical.epsilon _ neU (StP 42 v u) := St_fold _ _ _
def stz : St := ⟨false, 0, 0, 0, 0, false, ⟨0, 0, 0, 0, 0, 0, 0⟩, ⟨0, 0, 0, 0, 0, 0, 0⟩, false, false, 0, false, ⟨0, 0, 0⟩, ⟨0, 0, 0⟩, ⟨0, 0, 0, 0⟩, false, false, false, false⟩
theorem stz_lit : #[.bool false, .int .i64 0, .int .i64 0, .int .i64 0, .int .i64 0, .bool false, .int .i64 0, .int .i64 0, .int .i64 0, .int .i64 0, .int .i64 0, .int .i64 0, .int .i64 0, .int .i64 0, .int .i64 0, .int .i64 0, .int .i64 0, .int .i64 0, .int .i64 0, .int .i64 0, .bool false, .bool false, .int .i64 0, .bool false, .int .i64 0, .int .i64 0, .int .i64 0, .int .i64 0, .int .i64 0, .int .i64 0, .int .i32 0, .int .i32 0, .int .i32 0, .int .i32 0, .bool false, .bool false, .bool false, .bool false] = stz.C.toArray := rfl
theorem StAt.store {w : World} {b : Nat} {s : St} (h : StAt w b s) (u : St) : (@Classical.epsilon _ neU (StP 42 (.pointer (some ⟨b, 0, none⟩)) (.agg u.C.toArray))).run Try.prog w = .ok () (w.setCells b 0 u.C) := st_ok _ h rfl rfl (by simp [St.C, Sten.C, Bl.C, V4.C, Value.oneCell'])
theorem StAt.stored {w : World} {b : Nat} {s : St} (h : StAt w b s) (u : St) : StAt (w.setCells b 0 u.C) b u := heap_setCells_whole h u.C.toArray rfl
theorem StAt.store0 {w : World} {b : Nat} {s : St} (h : StAt w b s) : (@Classical.epsilon _ neU (StP 42 (.pointer (some ⟨b, 0, none⟩)) (.agg #[.bool false, .int .i64 0, .int .i64 0, .int .i64 0, .int .i64 0, .bool false, .int .i64 8, .int .i64 0, .int .i64 255, .int .i64 255, .int .i64 1, .int .i64 1, .int .i64 1, .int .i64 8, .int .i64 0, .int .i64 255, .int .i64 255, .int .i64 1, .int .i64 1, .int .i64 1, .bool false, .bool true, .int .i64 2, .bool false, .int .i64 1, .int .i64 2, .int .i64 1, .int .i64 1, .int .i64 2, .int .i64 1, .int .i32 0, .int .i32 0, .int .i32 0, .int .i32 0, .bool true, .bool true, .bool true, .bool true]))).run Try.prog w = .ok () (w.setCells b 0 st0.C) := StAt.store h st0
section
attribute [local go_sem ↓] St_St Ld_Sten Ld_Bl
set_option maxHeartbeats 1000000 in
theorem opsnew_any (w : World) : Calls Try.prog 15 #[] w fun e w' => e = .returned (.agg st0.C.toArray) ∧ Ext w w' := by
  go_enter Try.func15, Try.ntmps15
  go_upto_region 1 with fail
  rw [stz_lit]
  obtain ⟨w1, hw1, h1, hx1⟩ : ∃ w1, w.alloc (.cells stz.C.toArray 42) = w1 ∧ StAt w1 w.heap.size stz ∧ Ext w w1 := ⟨_, rfl, heap_alloc_new _ _, (Ext.refl _).alloc _⟩
  rw [hw1]
  clear hw1
  have HB : Hid (w.heap.size ≤ w.heap.size) := Lib.hid (Nat.le_refl _)
  generalize hb : w.heap.size = b0 at *
  have HB0 := Lib.hid hb
  clear hb
  go_upto_region 3 with fail
  obtain ⟨w2, hw2, hx2, hA, hB⟩ : ∃ w2, (w1.alloc (.cells #[.int .i64 8, .int .i64 0, .int .i64 255, .int .i64 255, .int .i64 1, .int .i64 1, .int .i64 1] 37)).alloc (.cells #[.int .i64 1, .int .i64 2, .int .i64 1] 39) = w2 ∧ Ext w1 w2 ∧ w2.heap[w1.heap.size]? = some (.cells #[.int .i64 8, .int .i64 0, .int .i64 255, .int .i64 255, .int .i64 1, .int .i64 1, .int .i64 1] 37 (0, 0)) ∧ w2.heap[w1.heap.size + 1]? = some (.cells #[.int .i64 1, .int .i64 2, .int .i64 1] 39 (0, 0)) := ⟨_, rfl, ((Ext.refl _).alloc _).alloc _, (heap_two _ _ _).1, (heap_two _ _ _).2⟩
  rw [hw2]
  clear hw2
  have q0 := ld_ok _ (range_cells (cs := side0.C) (L := side0.C) hA (fun j v hv => by rw [Nat.zero_add]; exact hv)) Try.underlying37 rfl rfl
  have q1 := ld_ok _ (range_cells (cs := bl0.C) (L := bl0.C) hB (fun j v hv => by rw [Nat.zero_add]; exact hv)) Try.underlying39 rfl rfl
  have q0' : (@Classical.epsilon _ neV (LdP 37 (.pointer (some ⟨w1.heap.size, 0, none⟩)))).run Try.prog w2 = .ok (.agg #[.int .i64 8, .int .i64 0, .int .i64 255, .int .i64 255, .int .i64 1, .int .i64 1, .int .i64 1]) w2 := q0
  have q1' : (@Classical.epsilon _ neV (LdP 39 (.pointer (some ⟨w1.heap.size + 1, 0, none⟩)))).run Try.prog w2 = .ok (.agg #[.int .i64 1, .int .i64 2, .int .i64 1]) w2 := q1
  have h2 := h1.ext hx2
  have hst := h2.store0
  have hsd := Lib.hid (h2.stored st0)
  have l0 := heap_lt h2
  have l1 := heap_lt hA
  have l2 := heap_lt hB
  have HX := Lib.hid (hx1.trans hx2)
  clear q0 q1 h2 hA hB h1 hx1 hx2
  go_wp2_with fail
  have hload := run_loadVar_whole (P := Try.prog) 42 _ hsd.out Try.underlying42 rfl rfl
  refine bodyPost_ret (results_cell1 rfl _ _ _ _ rfl hload) rfl ?_
  exact ⟨rfl, HX.out.chgTrans (chg_setCells (b := b0) (M := [b0]) (by simp) _ 0 w2 (Chg.refl _ _)) (by rw [HB0.out]; simp)⟩
end
end Go.Proofs.Ytgdcdkajicgliaa
