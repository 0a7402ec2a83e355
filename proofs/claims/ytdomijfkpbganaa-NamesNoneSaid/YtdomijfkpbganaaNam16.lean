/- Names that are not there; the walk of NamesNone. Conditions: each theorem's own premises. -/
import Derived.Test.YtdomijfkpbganaaNam14
import Derived.Deep.DeepCutAuto
namespace Go.Proofs.Ytdomijfkpbganaa
open Go.RowKit
set_option linter.unusedVariables false
attribute [local go_sem] Oper.semAt_some

theorem objs_zero : objs (List.replicate 65 0) 65 = [] := by decide +kernel
set_option maxHeartbeats 2000000 in
theorem none_walk (k N : Int) (w : World) : Calls Try.prog 7 #[.agg #[.int .i64 k, .int .i64 N]] w fun e w' => e = .returned (.bool true) ∧ Ext w w' := by
  refine calls_of_marks Try.func7 rfl ?_
  simp only [Try.ntmps7, List.size_toArray, List.length_cons, List.length_nil, Nat.reduceAdd, Nat.reduceSub, Array.replicate_succ, Array.replicate_zero, List.push_toArray, List.append_toArray, List.nil_append, List.cons_append]
  go_upto_region 1 with fail
  obtain ⟨w0, hw0, hop, hres, hx0⟩ : ∃ w0, (w.alloc (.cells #[.int .i64 k, .int .i64 N] 28)).alloc (.cells #[.bool false] 4) = w0 ∧ w0.heap[w.heap.size]? = some (.cells #[.int .i64 k, .int .i64 N] 28 (0, 0)) ∧ w0.heap[w.heap.size + 1]? = some (.cells #[.bool false] 4 (0, 0)) ∧ Ext w w0 :=
    ⟨_, rfl, ((Ext.refl _).alloc _).heap (heap_alloc_new _ _), (by have := heap_alloc_new (w.alloc (.cells #[.int .i64 k, .int .i64 N] 28)) (.cells #[.bool false] 4); simpa using this), ((Ext.refl _).alloc _).alloc _⟩
  rw [hw0]
  have HB : Hid (w.heap.size ≤ w.heap.size) := Lib.hid (Nat.le_refl _)
  generalize hb0 : w.heap.size = b0 at *
  have HB0 := Lib.hid hb0
  have HX0 := Lib.hid hx0
  clear hb0 hw0 hx0
  go_upto_region 3 with (go_at_call 8; refine (wakes_any _).mono ?_; rintro e w1 ⟨rfl, hx1⟩)
  have HOP := Lib.hid (hx1.heap hop)
  have HRES := Lib.hid (hx1.heap hres)
  have HX1 := Lib.hid (HX0.out.trans hx1)
  clear hop hres HX0 hx1
  have c1 : w1.cell? ⟨b0, 1, none⟩ = some (.int .i64 N) := cell_of_heap HOP.out rfl
  have n1 := heap_lt HOP.out
  go_wp2_with (first | (go_at_call 12; refine (gen_nil _ _).mono ?_; rintro _ _ ⟨rfl, rfl⟩) | (go_at_call 13; refine (bind_nil _ _).mono ?_; rintro _ _ ⟨rfl, rfl⟩) | (go_at_call 14; refine (delete_nil _ _).mono ?_; rintro _ _ ⟨rfl, rfl⟩) | (go_at_call 22; refine (all_nil _).mono ?_; rintro _ w2 ⟨cb, rfl, hcb, hnm, hx2⟩; have HNM := Lib.hid hnm; have HX2 := Lib.hid hx2))
  have HOP2 := Lib.hid (HX2.out.heap HOP.out)
  have HRES2 := Lib.hid (HX2.out.heap HRES.out)
  have HXA := Lib.hid (HX1.out.trans HX2.out)
  have hsz := HXA.out.size
  rw [HB0.out] at hsz
  clear hnm hx2 HX2 HOP HRES HX1 c1 n1
  refine range_lawT rfl (enters_of Try.func28 (by kernel_rfl) rfl) (all_tells cb _ 0 w2 HNM.out 0) (Below.refl _ _) (Nat.zero_le _) (fun k args W h => by rw [h]; rfl) (fun k args A B h _ => h)
    (fun k W2 => Chg [] w2 W2) (fun c W2 => False) (fun k A B h t => h.turn t (Nat.le_refl _)) (fun c A B h t => h) (Chg.refl _ _)
    (fun _ _ _ _ _ => False) (fun _ _ _ _ _ _ h _ => h) ?assign ?body ?done ?stop
  case assign => intro l k args W2 K hk; rw [objs_zero] at hk; exact absurd hk (Nat.not_lt_zero _)
  case body => intro l k args a' W2 hk; rw [objs_zero] at hk; exact absurd hk (Nat.not_lt_zero _)
  case stop => rintro D c W2 _ h; exact h.elim
  case done =>
    rintro D W2 hD hch hDW
    have HMK := Lib.hid ((Marks.nil b0 w2).more hch (by simp) hsz hD hDW)
    have hop := hch.heap HOP2.out (by simp)
    have hres := hch.heap HRES2.out (by simp)
    have HX2 := Lib.hid (HXA.out.chgTrans hch (by simp))
    have c1 : W2.cell? ⟨b0, 1, none⟩ = some (.int .i64 N) := cell_of_heap hop rfl
    have n1 := heap_lt hop
    have f0 : W2.frozen? ⟨b0 + 1, 0, none⟩ = false := free_of_heap hres
    have c0 : W2.cell? ⟨b0 + 1, 0, none⟩ = some (.bool false) := cell_of_heap hres rfl
    have hch1 : Chg [b0 + 1] W2 (W2.setCell ⟨b0 + 1, 0, none⟩ (.bool true)) := (Chg.refl _ _).setCell (by simp) _
    have HM2 := Lib.hid (HMK.out.chg hch1 (by simp; exact ⟨_, hres, rfl⟩))
    have HR2 := Lib.hid (heap_set (k := 0) (u := .bool true) hres)
    have HX3 := Lib.hid (HX2.out.chgTrans hch1 (by rw [HB0.out]; simp))
    clear hch hop hres hch1 hDW HNM
    go_wp2_with (first | (go_at_call 18; refine (bound_nil _).mono ?_; rintro _ _ ⟨rfl, rfl⟩) | (go_at_call 17; refine (is_nil _ _).mono ?_; rintro _ _ ⟨rfl, rfl⟩) | (go_at_call 15; refine (used_nil _ _).mono ?_; rintro _ _ ⟨rfl, rfl⟩) | (go_at_call 16; refine (left_nil _).mono ?_; rintro _ _ ⟨rfl, rfl⟩) | (go_at_call 20; refine (copy_nil _).mono ?_; rintro _ _ ⟨rfl, rfl⟩))
    refine retM HM2.out fun W3 ht => ?_
    have hc2 : W3.cell? ⟨b0 + 1, 0, none⟩ = some (.bool true) := cell_of_heap (ht.cells HR2.out) rfl
    exact ⟨.bool true, by simp [results, go_sem, hc2, asAddr, Try.f7], rfl, HX3.out.turned ht (by rw [HB0.out]; exact Nat.le_refl _)⟩
theorem none_arg (W : World) (v0 : Value) (h0 : ArgIs Try.prog W 28 v0) : Calls Try.prog 7 #[v0] W fun e w' => e = .returned (.bool true) ∧ Ext W w' := by
  obtain ⟨cs, rfl, g0⟩ := h0.agg 3 (ls := [.int .i64, .int .i64]) rfl rfl rfl
  obtain ⟨u0, us, rfl, ⟨k, rfl, _⟩, g1⟩ := g0.cons_inv
  obtain ⟨u1, us, rfl, ⟨N, rfl, _⟩, g2⟩ := g1.cons_inv
  obtain rfl := g2.nil_inv
  exact none_walk k N W
end Go.Proofs.Ytdomijfkpbganaa
