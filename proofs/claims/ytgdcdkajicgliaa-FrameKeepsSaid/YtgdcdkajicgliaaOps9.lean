/- Contracts of the document's byteOf, unit, units, side. Conditions: each theorem's own premises. -/
import Derived.Test.YtgdcdkajicgliaaOps8
namespace Go.Proofs.Ytgdcdkajicgliaa
open Go.RowKit
set_option linter.unusedVariables false
set_option maxRecDepth 100000
set_option linter.unusedSimpArgs false
attribute [local go_sem] idxS0 idxS1 idxB0 idxB1 idxI0 idxI1 idxI2

theorem byteOf_any (n : Int) (w : World) : Calls Try.prog 102 #[.int .i64 n] w fun e w' => e = .returned (.bool (inV n 0 255)) ∧ w = w' := by
  by_cases h1 : 0 ≤ n
  · have hv := Lib.hid (show inV n 0 255 = decide (n ≤ 255) by simp [inV, h1])
    go_enter Try.func102, Try.ntmps102
    go_wp2
    all_goals go_ret
    all_goals rw [hv.out]
    all_goals exact ⟨by simp_all, rfl⟩
  · have hv := Lib.hid (show inV n 0 255 = false by simp [inV, h1])
    go_enter Try.func102, Try.ntmps102
    go_wp2
    all_goals go_ret
    all_goals rw [hv.out]
    all_goals exact ⟨by simp_all, rfl⟩
theorem unit_any (x : Int) (w : World) : Calls Try.prog 103 #[.int .i32 x] w fun e w' => e = .returned (.bool (!outV x)) ∧ w = w' := by
  by_cases h1 : 0 ≤ x
  · have hv := Lib.hid (show (!outV x) = decide (x ≤ 65536) by
      have h2 : ¬ x < 0 := by omega
      unfold outV
      by_cases h : x ≤ 65536
      · have h3 : ¬ 65536 < x := by omega
        simp [h2, h, h3]
      · have h3 : 65536 < x := by omega
        simp [h2, h, h3])
    go_enter Try.func103, Try.ntmps103
    go_wp2
    all_goals go_ret
    all_goals rw [hv.out]
    all_goals exact ⟨by simp_all, rfl⟩
  · have hv := Lib.hid (show (!outV x) = false by have : x < 0 := by omega
                                                  simp [outV, this])
    go_enter Try.func103, Try.ntmps103
    go_wp2
    all_goals go_ret
    all_goals rw [hv.out]
    all_goals exact ⟨by simp_all, rfl⟩
set_option maxHeartbeats 2000000 in
set_option maxRecDepth 20000 in
theorem units_any (v : V4) (w : World) : Calls Try.prog 70 #[.agg v.C.toArray] w fun e w' => e = .returned (.bool (!(v.L.any outV))) ∧ Ext w w' := by
  have hv := Lib.hid (show (!(v.L.any outV)) = (!outV v.a && !outV v.b && !outV v.c && !outV v.d) by simp [V4.L, Bool.and_assoc])
  go_enter Try.func70, Try.ntmps70
  go_upto_region 1 with fail
  obtain ⟨w1, hw1e, hst, hx1⟩ : ∃ w1, w.alloc (.cells v.C.toArray 26) = w1 ∧ w1.heap[w.heap.size]? = some (.cells v.C.toArray 26 (0, 0)) ∧ Ext w w1 := ⟨_, rfl, heap_alloc_new _ _, (Ext.refl _).alloc _⟩
  rw [hw1e]
  have c0 : w1.cell? ⟨w.heap.size, 0, none⟩ = some (.int .i32 v.a) := cell_of_heap hst rfl
  have c1 : w1.cell? ⟨w.heap.size, 1, none⟩ = some (.int .i32 v.b) := cell_of_heap hst rfl
  have c2 : w1.cell? ⟨w.heap.size, 2, none⟩ = some (.int .i32 v.c) := cell_of_heap hst rfl
  have c3 : w1.cell? ⟨w.heap.size, 3, none⟩ = some (.int .i32 v.d) := cell_of_heap hst rfl
  have hlt := heap_lt hst
  have HX := Lib.hid hx1
  clear hst hx1 hw1e
  go_wp2_with (go_at_call 103; refine (unit_any _ _).mono ?_; rintro _ _ ⟨rfl, rfl⟩)
  all_goals go_ret
  all_goals rw [hv.out]
  all_goals exact ⟨by simp_all, HX.out⟩
set_option maxHeartbeats 4000000 in
set_option maxRecDepth 30000 in
theorem rside_any (t : Sten) (w : World) : Calls Try.prog 69 #[.agg t.C.toArray] w fun e w' => e = .returned (.bool (stenOk t)) ∧ Ext w w' := by
  have hv := Lib.hid (show stenOk t = (([t.fl, t.zf, t.zp].all fun n => inV n 1 8) && inV t.fn 1 8 && inV t.rf 0 255 && inV t.mask 0 255 && inV t.write 0 255) by
    unfold stenOk
    generalize ([t.fl, t.zf, t.zp].all fun n => inV n 1 8) = a
    simp only [List.all_cons, List.all_nil]
    generalize inV t.fn 1 8 = b
    cases a <;> cases b <;> simp [Bool.and_assoc])
  go_enter Try.func69, Try.ntmps69
  go_upto_region 1 with fail
  obtain ⟨w1, hw1e, hst, hx1⟩ : ∃ w1, w.alloc (.cells t.C.toArray 37) = w1 ∧ w1.heap[w.heap.size]? = some (.cells t.C.toArray 37 (0, 0)) ∧ Ext w w1 := ⟨_, rfl, heap_alloc_new _ _, (Ext.refl _).alloc _⟩
  rw [hw1e]
  have c0 : w1.cell? ⟨w.heap.size, 0, none⟩ = some (.int .i64 t.fn) := cell_of_heap hst rfl
  have c1 : w1.cell? ⟨w.heap.size, 1, none⟩ = some (.int .i64 t.rf) := cell_of_heap hst rfl
  have c2 : w1.cell? ⟨w.heap.size, 2, none⟩ = some (.int .i64 t.mask) := cell_of_heap hst rfl
  have c3 : w1.cell? ⟨w.heap.size, 3, none⟩ = some (.int .i64 t.write) := cell_of_heap hst rfl
  have c4 : w1.cell? ⟨w.heap.size, 4, none⟩ = some (.int .i64 t.fl) := cell_of_heap hst rfl
  have c5 : w1.cell? ⟨w.heap.size, 5, none⟩ = some (.int .i64 t.zf) := cell_of_heap hst rfl
  have c6 : w1.cell? ⟨w.heap.size, 6, none⟩ = some (.int .i64 t.zp) := cell_of_heap hst rfl
  have hlt := heap_lt hst
  have HX := Lib.hid hx1
  clear hst hx1 hw1e
  generalize w.heap.size = b0 at *
  go_wp2_with fail
  clear c4 c5 c6
  go_loopw [3, 13] (fun okv i wq => ∃ m : Int, (m = 0 ∨ m = 1 ∨ m = 2 ∨ m = 3) ∧ i = .int .i64 m ∧ okv = .bool (([t.fl, t.zf, t.zp].take m.toNat).all (fun n => inV n 1 8)) ∧ wq = w1) (fun _ i _ => (3 - intOf i).toNat)
  case atStart => exact ⟨0, by decide, rfl, by simp, rfl⟩
  case round =>
    obtain ⟨m, hm, rfl, rfl, rfl⟩ := hrel
    rcases hm with rfl | rfl | rfl | rfl
    · have hok := Lib.hid (show (([t.fl, t.zf, t.zp].take (Int.toNat 1)).all (fun n => inV n 1 8)) = ((([t.fl, t.zf, t.zp].take (Int.toNat 0)).all (fun n => inV n 1 8)) && (decide (1 ≤ t.fl) && decide (t.fl ≤ 8))) by simp [inV, Bool.and_assoc])
      generalize (([t.fl, t.zf, t.zp].take (Int.toNat 0)).all (fun n => inV n 1 8)) = okc at *
      cases okc
      · go_wp2_with fail
        go_roundw
        case rel => exact ⟨1, by decide, rfl, by rw [hok.out]; rfl, by first | rfl | trivial⟩
        case measure => simp [intOf]
      · go_wp2_with fail
        all_goals go_roundw
        all_goals first | exact ⟨1, by decide, rfl, by rw [hok.out]; simp [*]; done, by first | rfl | trivial⟩ | exact ⟨1, by decide, rfl, by rw [hok.out]; simp [*]; omega, by first | rfl | trivial⟩ | simp [intOf]
    · have hok := Lib.hid (show (([t.fl, t.zf, t.zp].take (Int.toNat 2)).all (fun n => inV n 1 8)) = ((([t.fl, t.zf, t.zp].take (Int.toNat 1)).all (fun n => inV n 1 8)) && (decide (1 ≤ t.zf) && decide (t.zf ≤ 8))) by simp [inV, Bool.and_assoc])
      generalize (([t.fl, t.zf, t.zp].take (Int.toNat 1)).all (fun n => inV n 1 8)) = okc at *
      cases okc
      · go_wp2_with fail
        go_roundw
        case rel => exact ⟨2, by decide, rfl, by rw [hok.out]; rfl, by first | rfl | trivial⟩
        case measure => simp [intOf]
      · go_wp2_with fail
        all_goals go_roundw
        all_goals first | exact ⟨2, by decide, rfl, by rw [hok.out]; simp [*]; done, by first | rfl | trivial⟩ | exact ⟨2, by decide, rfl, by rw [hok.out]; simp [*]; omega, by first | rfl | trivial⟩ | simp [intOf]
    · have hok := Lib.hid (show (([t.fl, t.zf, t.zp].take (Int.toNat 3)).all (fun n => inV n 1 8)) = ((([t.fl, t.zf, t.zp].take (Int.toNat 2)).all (fun n => inV n 1 8)) && (decide (1 ≤ t.zp) && decide (t.zp ≤ 8))) by simp [inV, Bool.and_assoc])
      generalize (([t.fl, t.zf, t.zp].take (Int.toNat 2)).all (fun n => inV n 1 8)) = okc at *
      cases okc
      · go_wp2_with fail
        go_roundw
        case rel => exact ⟨3, by decide, rfl, by rw [hok.out]; rfl, by first | rfl | trivial⟩
        case measure => simp [intOf]
      · go_wp2_with fail
        all_goals go_roundw
        all_goals first | exact ⟨3, by decide, rfl, by rw [hok.out]; simp [*]; done, by first | rfl | trivial⟩ | exact ⟨3, by decide, rfl, by rw [hok.out]; simp [*]; omega, by first | rfl | trivial⟩ | simp [intOf]
    · have hok := Lib.hid (show (([t.fl, t.zf, t.zp].take (Int.toNat 3)).all (fun n => inV n 1 8)) = ([t.fl, t.zf, t.zp].all (fun n => inV n 1 8)) from rfl)
      generalize (([t.fl, t.zf, t.zp].take (Int.toNat 3)).all (fun n => inV n 1 8)) = okz at *
      have hv2 := Lib.hid (hv.out.trans (by rw [← hok.out]) : stenOk t = (okz && inV t.fn 1 8 && inV t.rf 0 255 && inV t.mask 0 255 && inV t.write 0 255))
      clear hv hok
      cases okz
      · go_wp2_with fail
        go_ret
        exact ⟨ret_bool (by rw [hv2.out]; rfl), HX.out⟩
      · have hd : inV t.fn 1 8 = (decide (1 ≤ t.fn) && decide (t.fn ≤ 8)) := rfl
        have HD := Lib.hid hd
        clear hd
        go_wp2_with (go_at_call 102; refine (byteOf_any _ _).mono ?_; rintro _ _ ⟨rfl, rfl⟩)
        all_goals go_ret
        all_goals refine ⟨ret_bool ?_, HX.out⟩
        all_goals rw [hv2.out, HD.out]
        all_goals first | (simp [*]; done) | (simp [*]; omega)
theorem unit4 (v : V4) : (!(v.L.any outV)) = (!outV v.a && !outV v.b && !outV v.c && !outV v.d) := by simp [V4.L, Bool.and_assoc]
structure Ce where
  v : V4
  (dep sten : Int)
  deriving DecidableEq
def Ce.C (c : Ce) : List Value := c.v.C ++ [.int .i32 c.dep, .int .i64 c.sten]
def ceOk (c : Ce) : Bool := inV c.sten 0 255 && !outV c.dep && !(c.v.L.any outV)
theorem ce_loadV {w : World} {b : Nat} {c : Ce} (h : w.heap[b]? = some (.cells c.C.toArray 45 (0, 0))) : (@Classical.epsilon _ neV (LdP 26 (.pointer (some ⟨b, 0, none⟩)))).run Try.prog w = .ok (.agg c.v.C.toArray) w :=
  ld_ok _ (range_cells h (fun j v hv => by
    have hj : j < 4 := by have := (List.getElem?_eq_some_iff.1 hv).1; exact this
    have : j = 0 ∨ j = 1 ∨ j = 2 ∨ j = 3 := by omega
    rcases this with rfl | rfl | rfl | rfl <;> exact hv)) Try.underlying26 rfl rfl
end Go.Proofs.Ytgdcdkajicgliaa
