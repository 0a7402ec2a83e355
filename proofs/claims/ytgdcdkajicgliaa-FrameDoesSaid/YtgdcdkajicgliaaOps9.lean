/- Contracts of the document's byteOf, unit, units, side. Conditions: each theorem's own premises. Contract of the document's Right. Conditions: each theorem's own premises. Contract of ops' clamp. Conditions: each theorem's own premises. Contracts of ops' factors and the document's factor. Conditions: each theorem's own premises. Contract of the document's factor. Conditions: each theorem's own premises. Contract of ops' factors; what two colours are together. Conditions: each theorem's own premises. -/
import Derived.Test.YtgdcdkajicgliaaOps8
import Derived.BigQuiet
import Derived.Deep.QuietTactic
import Derived.Laws.EntriesVeiled
namespace Go.Proofs.Ytgdcdkajicgliaa
open Go.RowKit
set_option linter.unusedVariables false
set_option maxRecDepth 100000
set_option linter.unusedSimpArgs false
attribute [local go_sem] idxS0 idxS1 idxB0 idxB1 idxI0 idxI1 idxI2

theorem byteOf_any (n : Int) (w : World) : Calls Try.prog 102 #[.int .i64 n] w fun e w' => e = .returned (.bool (inV n 0 255)) ∧ w = w' := by
  by_cases h1 : 0 ≤ n
  · have hv := Lib.hid (show inV n 0 255 = decide (n ≤ 255) by simp [inV, h1])
    go_enter Try.func102, Try.ntmps102
    go_wp2
    all_goals go_ret
    all_goals rw [hv.out]
    all_goals exact ⟨by simp_all, rfl⟩
  · have hv := Lib.hid (show inV n 0 255 = false by simp [inV, h1])
    go_enter Try.func102, Try.ntmps102
    go_wp2
    all_goals go_ret
    all_goals rw [hv.out]
    all_goals exact ⟨by simp_all, rfl⟩
theorem unit_any (x : Int) (w : World) : Calls Try.prog 103 #[.int .i32 x] w fun e w' => e = .returned (.bool (!outV x)) ∧ w = w' := by
  by_cases h1 : 0 ≤ x
  · have hv := Lib.hid (show (!outV x) = decide (x ≤ 65536) by
      have h2 : ¬ x < 0 := by omega
      unfold outV
      by_cases h : x ≤ 65536
      · have h3 : ¬ 65536 < x := by omega
        simp [h2, h, h3]
      · have h3 : 65536 < x := by omega
        simp [h2, h, h3])
    go_enter Try.func103, Try.ntmps103
    go_wp2
    all_goals go_ret
    all_goals rw [hv.out]
    all_goals exact ⟨by simp_all, rfl⟩
  · have hv := Lib.hid (show (!outV x) = false by have : x < 0 := by omega
                                                  simp [outV, this])
    go_enter Try.func103, Try.ntmps103
    go_wp2
    all_goals go_ret
    all_goals rw [hv.out]
    all_goals exact ⟨by simp_all, rfl⟩
set_option maxHeartbeats 2000000 in
set_option maxRecDepth 20000 in
theorem units_any (v : V4) (w : World) : Calls Try.prog 70 #[.agg v.C.toArray] w fun e w' => e = .returned (.bool (!(v.L.any outV))) ∧ Ext w w' := by
  have hv := Lib.hid (show (!(v.L.any outV)) = (!outV v.a && !outV v.b && !outV v.c && !outV v.d) by simp [V4.L, Bool.and_assoc])
  go_enter Try.func70, Try.ntmps70
  go_upto_region 1 with fail
  obtain ⟨w1, hw1e, hst, hx1⟩ : ∃ w1, w.alloc (.cells v.C.toArray 26) = w1 ∧ w1.heap[w.heap.size]? = some (.cells v.C.toArray 26 (0, 0)) ∧ Ext w w1 := ⟨_, rfl, heap_alloc_new _ _, (Ext.refl _).alloc _⟩
  rw [hw1e]
  have c0 : w1.cell? ⟨w.heap.size, 0, none⟩ = some (.int .i32 v.a) := cell_of_heap hst rfl
  have c1 : w1.cell? ⟨w.heap.size, 1, none⟩ = some (.int .i32 v.b) := cell_of_heap hst rfl
  have c2 : w1.cell? ⟨w.heap.size, 2, none⟩ = some (.int .i32 v.c) := cell_of_heap hst rfl
  have c3 : w1.cell? ⟨w.heap.size, 3, none⟩ = some (.int .i32 v.d) := cell_of_heap hst rfl
  have hlt := heap_lt hst
  have HX := Lib.hid hx1
  clear hst hx1 hw1e
  go_wp2_with (go_at_call 103; refine (unit_any _ _).mono ?_; rintro _ _ ⟨rfl, rfl⟩)
  all_goals go_ret
  all_goals rw [hv.out]
  all_goals exact ⟨by simp_all, HX.out⟩
set_option maxHeartbeats 4000000 in
set_option maxRecDepth 30000 in
theorem rside_any (t : Sten) (w : World) : Calls Try.prog 69 #[.agg t.C.toArray] w fun e w' => e = .returned (.bool (stenOk t)) ∧ Ext w w' := by
  have hv := Lib.hid (show stenOk t = (([t.fl, t.zf, t.zp].all fun n => inV n 1 8) && inV t.fn 1 8 && inV t.rf 0 255 && inV t.mask 0 255 && inV t.write 0 255) by
    unfold stenOk
    generalize ([t.fl, t.zf, t.zp].all fun n => inV n 1 8) = a
    simp only [List.all_cons, List.all_nil]
    generalize inV t.fn 1 8 = b
    cases a <;> cases b <;> simp [Bool.and_assoc])
  go_enter Try.func69, Try.ntmps69
  go_upto_region 1 with fail
  obtain ⟨w1, hw1e, hst, hx1⟩ : ∃ w1, w.alloc (.cells t.C.toArray 37) = w1 ∧ w1.heap[w.heap.size]? = some (.cells t.C.toArray 37 (0, 0)) ∧ Ext w w1 := ⟨_, rfl, heap_alloc_new _ _, (Ext.refl _).alloc _⟩
  rw [hw1e]
  have c0 : w1.cell? ⟨w.heap.size, 0, none⟩ = some (.int .i64 t.fn) := cell_of_heap hst rfl
  have c1 : w1.cell? ⟨w.heap.size, 1, none⟩ = some (.int .i64 t.rf) := cell_of_heap hst rfl
  have c2 : w1.cell? ⟨w.heap.size, 2, none⟩ = some (.int .i64 t.mask) := cell_of_heap hst rfl
  have c3 : w1.cell? ⟨w.heap.size, 3, none⟩ = some (.int .i64 t.write) := cell_of_heap hst rfl
  have c4 : w1.cell? ⟨w.heap.size, 4, none⟩ = some (.int .i64 t.fl) := cell_of_heap hst rfl
  have c5 : w1.cell? ⟨w.heap.size, 5, none⟩ = some (.int .i64 t.zf) := cell_of_heap hst rfl
  have c6 : w1.cell? ⟨w.heap.size, 6, none⟩ = some (.int .i64 t.zp) := cell_of_heap hst rfl
  have hlt := heap_lt hst
  have HX := Lib.hid hx1
  clear hst hx1 hw1e
  generalize w.heap.size = b0 at *
  go_wp2_with fail
  clear c4 c5 c6
  go_loopw [3, 13] (fun okv i wq => ∃ m : Int, (m = 0 ∨ m = 1 ∨ m = 2 ∨ m = 3) ∧ i = .int .i64 m ∧ okv = .bool (([t.fl, t.zf, t.zp].take m.toNat).all (fun n => inV n 1 8)) ∧ wq = w1) (fun _ i _ => (3 - intOf i).toNat)
  case atStart => exact ⟨0, by decide, rfl, by simp, rfl⟩
  case round =>
    obtain ⟨m, hm, rfl, rfl, rfl⟩ := hrel
    rcases hm with rfl | rfl | rfl | rfl
    · have hok := Lib.hid (show (([t.fl, t.zf, t.zp].take (Int.toNat 1)).all (fun n => inV n 1 8)) = ((([t.fl, t.zf, t.zp].take (Int.toNat 0)).all (fun n => inV n 1 8)) && (decide (1 ≤ t.fl) && decide (t.fl ≤ 8))) by simp [inV, Bool.and_assoc])
      generalize (([t.fl, t.zf, t.zp].take (Int.toNat 0)).all (fun n => inV n 1 8)) = okc at *
      cases okc
      · go_wp2_with fail
        go_roundw
        case rel => exact ⟨1, by decide, rfl, by rw [hok.out]; rfl, by first | rfl | trivial⟩
        case measure => simp [intOf]
      · go_wp2_with fail
        all_goals go_roundw
        all_goals first | exact ⟨1, by decide, rfl, by rw [hok.out]; simp [*]; done, by first | rfl | trivial⟩ | exact ⟨1, by decide, rfl, by rw [hok.out]; simp [*]; omega, by first | rfl | trivial⟩ | simp [intOf]
    · have hok := Lib.hid (show (([t.fl, t.zf, t.zp].take (Int.toNat 2)).all (fun n => inV n 1 8)) = ((([t.fl, t.zf, t.zp].take (Int.toNat 1)).all (fun n => inV n 1 8)) && (decide (1 ≤ t.zf) && decide (t.zf ≤ 8))) by simp [inV, Bool.and_assoc])
      generalize (([t.fl, t.zf, t.zp].take (Int.toNat 1)).all (fun n => inV n 1 8)) = okc at *
      cases okc
      · go_wp2_with fail
        go_roundw
        case rel => exact ⟨2, by decide, rfl, by rw [hok.out]; rfl, by first | rfl | trivial⟩
        case measure => simp [intOf]
      · go_wp2_with fail
        all_goals go_roundw
        all_goals first | exact ⟨2, by decide, rfl, by rw [hok.out]; simp [*]; done, by first | rfl | trivial⟩ | exact ⟨2, by decide, rfl, by rw [hok.out]; simp [*]; omega, by first | rfl | trivial⟩ | simp [intOf]
    · have hok := Lib.hid (show (([t.fl, t.zf, t.zp].take (Int.toNat 3)).all (fun n => inV n 1 8)) = ((([t.fl, t.zf, t.zp].take (Int.toNat 2)).all (fun n => inV n 1 8)) && (decide (1 ≤ t.zp) && decide (t.zp ≤ 8))) by simp [inV, Bool.and_assoc])
      generalize (([t.fl, t.zf, t.zp].take (Int.toNat 2)).all (fun n => inV n 1 8)) = okc at *
      cases okc
      · go_wp2_with fail
        go_roundw
        case rel => exact ⟨3, by decide, rfl, by rw [hok.out]; rfl, by first | rfl | trivial⟩
        case measure => simp [intOf]
      · go_wp2_with fail
        all_goals go_roundw
        all_goals first | exact ⟨3, by decide, rfl, by rw [hok.out]; simp [*]; done, by first | rfl | trivial⟩ | exact ⟨3, by decide, rfl, by rw [hok.out]; simp [*]; omega, by first | rfl | trivial⟩ | simp [intOf]
    · have hok := Lib.hid (show (([t.fl, t.zf, t.zp].take (Int.toNat 3)).all (fun n => inV n 1 8)) = ([t.fl, t.zf, t.zp].all (fun n => inV n 1 8)) from rfl)
      generalize (([t.fl, t.zf, t.zp].take (Int.toNat 3)).all (fun n => inV n 1 8)) = okz at *
      have hv2 := Lib.hid (hv.out.trans (by rw [← hok.out]) : stenOk t = (okz && inV t.fn 1 8 && inV t.rf 0 255 && inV t.mask 0 255 && inV t.write 0 255))
      clear hv hok
      cases okz
      · go_wp2_with fail
        go_ret
        exact ⟨ret_bool (by rw [hv2.out]; rfl), HX.out⟩
      · have hd : inV t.fn 1 8 = (decide (1 ≤ t.fn) && decide (t.fn ≤ 8)) := rfl
        have HD := Lib.hid hd
        clear hd
        go_wp2_with (go_at_call 102; refine (byteOf_any _ _).mono ?_; rintro _ _ ⟨rfl, rfl⟩)
        all_goals go_ret
        all_goals refine ⟨ret_bool ?_, HX.out⟩
        all_goals rw [hv2.out, HD.out]
        all_goals first | (simp [*]; done) | (simp [*]; omega)
theorem unit4 (v : V4) : (!(v.L.any outV)) = (!outV v.a && !outV v.b && !outV v.c && !outV v.d) := by simp [V4.L, Bool.and_assoc]
structure Ce where
  v : V4
  (dep sten : Int)
  deriving DecidableEq
def Ce.C (c : Ce) : List Value := c.v.C ++ [.int .i32 c.dep, .int .i64 c.sten]
def ceOk (c : Ce) : Bool := inV c.sten 0 255 && !outV c.dep && !(c.v.L.any outV)
theorem ce_loadV {w : World} {b : Nat} {c : Ce} (h : w.heap[b]? = some (.cells c.C.toArray 45 (0, 0))) : (@Classical.epsilon _ neV (LdP 26 (.pointer (some ⟨b, 0, none⟩)))).run Try.prog w = .ok (.agg c.v.C.toArray) w :=
  ld_ok _ (range_cells h (fun j v hv => by
    have hj : j < 4 := by have := (List.getElem?_eq_some_iff.1 hv).1; exact this
    have : j = 0 ∨ j = 1 ∨ j = 2 ∨ j = 3 := by omega
    rcases this with rfl | rfl | rfl | rfl <;> exact hv)) Try.underlying26 rfl rfl
end Go.Proofs.Ytgdcdkajicgliaa
namespace Go.Proofs.Ytgdcdkajicgliaa
open Go.RowKit
set_option linter.unusedVariables false
set_option maxRecDepth 100000
set_option linter.unusedSimpArgs false
attribute [local go_sem ↓] Ld_St Ld_Sten Ld_Bl Ld_V4
attribute [local go_sem] idxS0 idxS1 idxB0 idxB1 idxI0 idxI1 idxI2

theorem blOk_eq (t : Bl) : blOk t = !(decide (t.eqn < 1) || decide (3 < t.eqn) || decide (t.src < 1) || decide (15 < t.src) || decide (t.dst < 1) || decide (14 < t.dst)) := by
  have h : ∀ a b : Int, (!decide (a < b)) = decide (b ≤ a) := fun a b => by by_cases h : a < b <;> simp [h] <;> omega
  simp only [blOk, inV, Bool.not_or, h, Bool.and_assoc]
theorem stOk_eq (s : St) : stOk s = ([s.rgb, s.al].all blOk && (decide (0 ≤ s.w) && decide (0 ≤ s.h) && stenOk s.f && stenOk s.b && decide (1 ≤ s.df) && decide (s.df ≤ 8) && !(s.k.L.any outV))) := by
  unfold stOk stHead inV
  simp only [List.all_cons, List.all_nil, Bool.and_true]
  generalize decide (0 ≤ s.w) = a1
  generalize decide (0 ≤ s.h) = a2
  generalize decide (1 ≤ s.df) = a3
  generalize decide (s.df ≤ 8) = a4
  generalize (s.k.L.any outV) = a5
  generalize stenOk s.f = a6
  generalize stenOk s.b = a7
  generalize blOk s.rgb = a8
  generalize blOk s.al = a9
  revert a1 a2 a3 a4 a5 a6 a7 a8 a9
  decide
set_option maxHeartbeats 4000000 in
set_option maxRecDepth 30000 in
theorem right_any (s : St) (w : World) : Calls Try.prog 30 #[.agg s.C.toArray] w fun e w' => e = .returned (.bool (stOk s)) ∧ Ext w w' := by
  have HV := Lib.hid (stOk_eq s)
  go_enter Try.func30, Try.ntmps30
  go_upto_region 1 with fail
  obtain ⟨w1, hw1e, hst, hx1⟩ : ∃ w1, w.alloc (.cells s.C.toArray 42) = w1 ∧ StAt w1 w.heap.size s ∧ Ext w w1 := ⟨_, rfl, heap_alloc_new _ _, (Ext.refl _).alloc _⟩
  rw [hw1e]
  have r1 : (@Classical.epsilon _ neV (LdP 39 (.pointer (some ⟨w.heap.size, 24, none⟩)))).run Try.prog w1 = .ok (.agg #[.int .i64 s.rgb.eqn, .int .i64 s.rgb.src, .int .i64 s.rgb.dst]) w1 := hst.loadR
  have r2 : (@Classical.epsilon _ neV (LdP 39 (.pointer (some ⟨w.heap.size, 27, none⟩)))).run Try.prog w1 = .ok (.agg #[.int .i64 s.al.eqn, .int .i64 s.al.src, .int .i64 s.al.dst]) w1 := hst.loadA
  have hlt := heap_lt hst
  have HST := Lib.hid hst
  have HX1 := Lib.hid hx1
  clear hst hx1 hw1e
  generalize w.heap.size = b0 at *
  go_wp2_with fail
  clear r1 r2
  go_loopw [10] (fun i wq => ∃ m : Int, (m = 0 ∨ m = 1 ∨ m = 2) ∧ i = .int .i64 m ∧ ([s.rgb, s.al].take m.toNat).all blOk = true ∧ Ext w1 wq) (fun i _ => (2 - intOf i).toNat)
  case atStart => exact ⟨0, by decide, rfl, rfl, Ext.refl _⟩
  case round =>
    obtain ⟨m, hm, rfl, hall, hxq⟩ := hrel
    rcases hm with rfl | rfl | rfl
    · have HB := Lib.hid (blOk_eq s.rgb)
      have HA := Lib.hid (show ([s.rgb, s.al].take (Int.toNat 1)).all blOk = ((([s.rgb, s.al].take (Int.toNat 0)).all blOk) && blOk s.rgb) by simp)
      have HN := Lib.hid (show blOk s.rgb = false → stOk s = false by intro h; rw [HV.out]; simp [h])
      have HALL := Lib.hid hall
      clear hall
      rename World => wq
      go_upto_region 4 with fail
      obtain ⟨w2, hw2e, hT, hx2⟩ : ∃ w2, wq.alloc (.cells #[.int .i64 s.rgb.eqn, .int .i64 s.rgb.src, .int .i64 s.rgb.dst] 39) = w2 ∧ w2.heap[wq.heap.size]? = some (.cells #[.int .i64 s.rgb.eqn, .int .i64 s.rgb.src, .int .i64 s.rgb.dst] 39 (0, 0)) ∧ Ext wq w2 := ⟨_, rfl, heap_alloc_new _ _, (Ext.refl _).alloc _⟩
      rw [hw2e]
      have g0 : w2.cell? ⟨wq.heap.size, 0, none⟩ = some (.int .i64 s.rgb.eqn) := cell_of_heap hT rfl
      have g1 : w2.cell? ⟨wq.heap.size, 1, none⟩ = some (.int .i64 s.rgb.src) := cell_of_heap hT rfl
      have g2 : w2.cell? ⟨wq.heap.size, 2, none⟩ = some (.int .i64 s.rgb.dst) := cell_of_heap hT rfl
      have hlt3 := heap_lt hT
      have HX2 := Lib.hid (hxq.trans hx2)
      clear hxq hx2 hw2e hT
      generalize wq.heap.size = b2 at *
      go_wp2_with fail
      all_goals first
        | (go_ret; exact ⟨ret_bool (by rw [HN.out (by rw [HB.out]; simp; omega)]), HX1.out.trans HX2.out⟩)
        | (have hb : blOk s.rgb = true := (by rw [HB.out]; simp; omega)
           have HBB := Lib.hid hb
           clear hb
           go_roundw
           case rel => exact ⟨1, by decide, rfl, by rw [HA.out, HALL.out, HBB.out]; rfl, HX2.out⟩
           case measure => simp [intOf])
    · have HB := Lib.hid (blOk_eq s.al)
      have HA := Lib.hid (show ([s.rgb, s.al].take (Int.toNat 2)).all blOk = ((([s.rgb, s.al].take (Int.toNat 1)).all blOk) && blOk s.al) by simp)
      have HN := Lib.hid (show blOk s.al = false → stOk s = false by intro h; rw [HV.out]; simp [h])
      have HALL := Lib.hid hall
      clear hall
      rename World => wq
      go_upto_region 4 with fail
      obtain ⟨w2, hw2e, hT, hx2⟩ : ∃ w2, wq.alloc (.cells #[.int .i64 s.al.eqn, .int .i64 s.al.src, .int .i64 s.al.dst] 39) = w2 ∧ w2.heap[wq.heap.size]? = some (.cells #[.int .i64 s.al.eqn, .int .i64 s.al.src, .int .i64 s.al.dst] 39 (0, 0)) ∧ Ext wq w2 := ⟨_, rfl, heap_alloc_new _ _, (Ext.refl _).alloc _⟩
      rw [hw2e]
      have g0 : w2.cell? ⟨wq.heap.size, 0, none⟩ = some (.int .i64 s.al.eqn) := cell_of_heap hT rfl
      have g1 : w2.cell? ⟨wq.heap.size, 1, none⟩ = some (.int .i64 s.al.src) := cell_of_heap hT rfl
      have g2 : w2.cell? ⟨wq.heap.size, 2, none⟩ = some (.int .i64 s.al.dst) := cell_of_heap hT rfl
      have hlt3 := heap_lt hT
      have HX2 := Lib.hid (hxq.trans hx2)
      clear hxq hx2 hw2e hT
      generalize wq.heap.size = b2 at *
      go_wp2_with fail
      all_goals first
        | (go_ret; exact ⟨ret_bool (by rw [HN.out (by rw [HB.out]; simp; omega)]), HX1.out.trans HX2.out⟩)
        | (have hb : blOk s.al = true := (by rw [HB.out]; simp; omega)
           have HBB := Lib.hid hb
           clear hb
           go_roundw
           case rel => exact ⟨2, by decide, rfl, by rw [HA.out, HALL.out, HBB.out]; rfl, HX2.out⟩
           case measure => simp [intOf])
    · have HALL := Lib.hid (show [s.rgb, s.al].all blOk = true from hall)
      have hsr := HST.out.ext hxq
      have HXR := Lib.hid (HX1.out.trans hxq)
      have hlr := Nat.lt_of_lt_of_le hlt hxq.size
      clear hxq hall HST HX1
      have c3 : wr.cell? ⟨b0, 3, none⟩ = some (.int .i64 s.w) := cell_of_heap hsr rfl
      have c4 : wr.cell? ⟨b0, 4, none⟩ = some (.int .i64 s.h) := cell_of_heap hsr rfl
      have c22 : wr.cell? ⟨b0, 22, none⟩ = some (.int .i64 s.df) := cell_of_heap hsr rfl
      have l1 := hsr.loadF
      have HSR := Lib.hid hsr
      clear hsr
      have HV2 : Hid (stOk s = (decide (0 ≤ s.w) && decide (0 ≤ s.h) && stenOk s.f && stenOk s.b && decide (1 ≤ s.df) && decide (s.df ≤ 8) && !(s.k.L.any outV))) := Lib.hid (by rw [HV.out, HALL.out]; simp)
      clear HV
      go_wp2_with (first
        | (go_at_call_of 69 (Value.agg s.f.C.toArray); refine (rside_any s.f _).mono ?_; rintro _ w5 ⟨rfl, hx5⟩; have l2 := (HSR.out.ext hx5).loadB)
        | (go_at_call_of 69 (Value.agg s.b.C.toArray); refine (rside_any s.b _).mono ?_; rintro _ w6 ⟨rfl, hx6⟩; have l3 := ((HSR.out.ext (by assumption)).ext hx6).loadK; have c22 : w6.cell? ⟨b0, 22, none⟩ = some (.int .i64 s.df) := cell_of_heap ((HSR.out.ext (by assumption)).ext hx6) rfl; have hl6 := heap_lt ((HSR.out.ext (by assumption)).ext hx6))
        | (go_at_call 70; refine (units_any s.k _).mono ?_; rintro _ w7 ⟨rfl, hx7⟩))
      all_goals go_ret
      all_goals refine ⟨ret_bool (by rw [HV2.out]; first | (simp [*]; done) | (simp [*]; omega)), ?_⟩
      all_goals first | exact HXR.out | exact (HXR.out.trans hx5) | exact ((HXR.out.trans hx5).trans hx6) | exact (((HXR.out.trans hx5).trans hx6).trans hx7)
end Go.Proofs.Ytgdcdkajicgliaa
namespace Go.Proofs.Ytgdcdkajicgliaa
open Go.RowKit
set_option linter.unusedVariables false
set_option maxRecDepth 100000
set_option linter.unusedSimpArgs false
attribute [local go_sem] idxV0 idxV1 idxV2 idxV3

def V4.cl (v : V4) : V4 := ⟨clV v.a, clV v.b, clV v.c, clV v.d⟩
def VAt (w : World) (b : Nat) (v : V4) : Prop := w.heap[b]? = some (.cells v.C.toArray 26 (0, 0))
theorem VAt.load {w : World} {b : Nat} {v : V4} (h : VAt w b v) : (@Classical.epsilon _ neV (LdP 26 (.pointer (some ⟨b, 0, none⟩)))).run Try.prog w = .ok (.agg #[.int .i32 v.a, .int .i32 v.b, .int .i32 v.c, .int .i32 v.d]) w :=
  ld_ok _ (range_cells h (fun j v hv => by rw [Nat.zero_add]; exact hv)) Try.underlying26 rfl rfl
theorem VAt.ext {w w' : World} {b : Nat} {v : V4} (h : VAt w b v) (x : Ext w w') : VAt w' b v := x.heap h
theorem VAt.chg {M : List Nat} {w w' : World} {b : Nat} {v : V4} (h : VAt w b v) (x : Chg M w w') (hm : b ∉ M) : VAt w' b v := x.heap h hm
theorem VAt.cell {w : World} {b : Nat} {v : V4} (h : VAt w b v) : w.cell? ⟨b, 0, none⟩ = some (.int .i32 v.a) ∧ w.cell? ⟨b, 1, none⟩ = some (.int .i32 v.b) ∧ w.cell? ⟨b, 2, none⟩ = some (.int .i32 v.c) ∧ w.cell? ⟨b, 3, none⟩ = some (.int .i32 v.d) :=
  ⟨cell_of_heap h rfl, cell_of_heap h rfl, cell_of_heap h rfl, cell_of_heap h rfl⟩
theorem VAt.set0 {w : World} {b : Nat} {v : V4} (h : VAt w b v) (x : Int) : VAt (w.setCell ⟨b, 0, none⟩ (.int .i32 x)) b { v with a := x } := heap_set (k := 0) (u := .int .i32 x) h
theorem VAt.set1 {w : World} {b : Nat} {v : V4} (h : VAt w b v) (x : Int) : VAt (w.setCell ⟨b, 1, none⟩ (.int .i32 x)) b { v with b := x } := heap_set (k := 1) (u := .int .i32 x) h
theorem VAt.set2 {w : World} {b : Nat} {v : V4} (h : VAt w b v) (x : Int) : VAt (w.setCell ⟨b, 2, none⟩ (.int .i32 x)) b { v with c := x } := heap_set (k := 2) (u := .int .i32 x) h
theorem VAt.set3 {w : World} {b : Nat} {v : V4} (h : VAt w b v) (x : Int) : VAt (w.setCell ⟨b, 3, none⟩ (.int .i32 x)) b { v with d := x } := heap_set (k := 3) (u := .int .i32 x) h
def StP (T : TypeId) (v u : Value) (s : Sem Unit) : Prop := Instr.storeAt T v u = s
theorem neU : Nonempty (Sem Unit) := ⟨pure ()⟩
theorem St_fold (T : TypeId) (v u : Value) : Instr.storeAt T v u = @Classical.epsilon _ neU (StP T v u) := Classical.epsilon_spec (p := StP T v u) ⟨_, rfl⟩
theorem St_V4 (v u : Value) : Instr.storeAt 26 v u = @Classical.epsilon _ neU (StP 26 v u) := St_fold _ _ _
theorem St_Ce (v u : Value) : Instr.storeAt 45 v u = @Classical.epsilon _ neU (StP 45 v u) := St_fold _ _ _
theorem Ld_Ce (v : Value) : Instr.loadAt 45 v = @Classical.epsilon _ neV (LdP 45 v) := Ld_fold _ _
theorem st_ok {w : World} {b : Nat} (T : TypeId) {T0 : TypeId} {cs cells : Array Value} (h : w.heap[b]? = some (.cells cs T0 (0, 0))) (hl : cells.size = cs.size) (hi : (Try.prog.info? T).map (·.size) = some cells.size) (h1 : cells.all (·.oneCell') = true) :
    (@Classical.epsilon _ neU (StP T (.pointer (some ⟨b, 0, none⟩)) (.agg cells))).run Try.prog w = .ok () (w.setCells b 0 cells.toList) := by
  rw [← St_fold]
  exact run_storeAt_mid w b 0 T cells (by rw [hl]; exact there_whole h) hi h1
theorem VAt.store {w : World} {b : Nat} {v : V4} (h : VAt w b v) (u : V4) : (@Classical.epsilon _ neU (StP 26 (.pointer (some ⟨b, 0, none⟩)) (.agg #[.int .i32 u.a, .int .i32 u.b, .int .i32 u.c, .int .i32 u.d]))).run Try.prog w = .ok () (w.setCells b 0 u.C) := st_ok _ h rfl rfl (by simp [Value.oneCell'])
theorem VAt.stored {w : World} {b : Nat} {v : V4} (h : VAt w b v) (u : V4) : VAt (w.setCells b 0 u.C) b u := heap_setCells_whole h u.C.toArray rfl
def CAt (w : World) (b : Nat) (c : Ce) : Prop := w.heap[b]? = some (.cells c.C.toArray 45 (0, 0))
theorem CAt.store {w : World} {b : Nat} {c : Ce} (h : CAt w b c) (u : Ce) : (@Classical.epsilon _ neU (StP 45 (.pointer (some ⟨b, 0, none⟩)) (.agg #[.int .i32 u.v.a, .int .i32 u.v.b, .int .i32 u.v.c, .int .i32 u.v.d, .int .i32 u.dep, .int .i64 u.sten]))).run Try.prog w = .ok () (w.setCells b 0 u.C) := st_ok _ h rfl rfl (by simp [Value.oneCell'])
theorem CAt.stored {w : World} {b : Nat} {c : Ce} (h : CAt w b c) (u : Ce) : CAt (w.setCells b 0 u.C) b u := heap_setCells_whole h u.C.toArray rfl
theorem CAt.load {w : World} {b : Nat} {c : Ce} (h : CAt w b c) : (@Classical.epsilon _ neV (LdP 45 (.pointer (some ⟨b, 0, none⟩)))).run Try.prog w = .ok (.agg #[.int .i32 c.v.a, .int .i32 c.v.b, .int .i32 c.v.c, .int .i32 c.v.d, .int .i32 c.dep, .int .i64 c.sten]) w :=
  ld_ok _ (range_cells h (fun j v hv => by rw [Nat.zero_add]; exact hv)) Try.underlying45 rfl rfl
theorem CAt.loadV {w : World} {b : Nat} {c : Ce} (h : CAt w b c) : (@Classical.epsilon _ neV (LdP 26 (.pointer (some ⟨b, 0, none⟩)))).run Try.prog w = .ok (.agg c.v.C.toArray) w := ce_loadV h
theorem CAt.ext {w w' : World} {b : Nat} {c : Ce} (h : CAt w b c) (x : Ext w w') : CAt w' b c := x.heap h
theorem CAt.chg {M : List Nat} {w w' : World} {b : Nat} {c : Ce} (h : CAt w b c) (x : Chg M w w') (hm : b ∉ M) : CAt w' b c := x.heap h hm
theorem heap_two (w : World) (A B : Obj) : ((w.alloc A).alloc B).heap[w.heap.size]? = some A ∧ ((w.alloc A).alloc B).heap[w.heap.size + 1]? = some B := by
  refine ⟨by rw [heap_alloc_old (w.alloc A) B (by simp), heap_alloc_new], ?_⟩
  have := heap_alloc_new (w.alloc A) B
  simpa using this
attribute [local go_sem ↓] Ld_V4 St_V4
def clStep (v : V4) : Nat → V4
  | 0 => v
  | 1 => { v with a := clV v.a }
  | 2 => { v with a := clV v.a, b := clV v.b }
  | 3 => { v with a := clV v.a, b := clV v.b, c := clV v.c }
  | _ => v.cl
set_option maxHeartbeats 2000000 in
set_option maxRecDepth 20000 in
theorem clamp_any (v : V4) (w : World) : Calls Try.prog 119 #[.agg v.C.toArray] w fun e w' => e = .returned (.agg v.cl.C.toArray) ∧ Ext w w' := by
  go_enter Try.func119, Try.ntmps119
  go_upto_region 1 with fail
  obtain ⟨w2, hw2e, hv, hr, hx2, hs2⟩ : ∃ w2, (w.alloc (.cells v.C.toArray 26)).alloc (.cells #[.int .i32 0, .int .i32 0, .int .i32 0, .int .i32 0] 26) = w2 ∧ VAt w2 w.heap.size v ∧ VAt w2 (w.heap.size + 1) ⟨0, 0, 0, 0⟩ ∧ Ext w w2 ∧ w2.heap.size = w.heap.size + 2 :=
    ⟨_, rfl, (heap_two _ _ _).1, (heap_two _ _ _).2, ((Ext.refl _).alloc _).alloc _, by rw [World.size_alloc, World.size_alloc]⟩
  rw [hw2e]
  have hld := hv.load
  have hlt := heap_lt hv
  have HR := Lib.hid hr
  have HX := Lib.hid hx2
  have hlt2 := heap_lt hr
  have hbase : w.heap.size ≤ w.heap.size := Nat.le_refl _
  have HB := Lib.hid hbase
  clear hr hx2 hw2e hs2 hbase
  generalize hb0 : w.heap.size = b0 at hlt hld hv hlt2 HR ⊢
  have HB0 := Lib.hid hb0
  clear hb0
  go_wp2_with fail
  clear hld
  go_loopw [6] (fun i wq => ∃ m : Nat, (m = 0 ∨ m = 1 ∨ m = 2 ∨ m = 3 ∨ m = 4) ∧ i = .int .i64 m ∧ VAt wq b0 (clStep v m) ∧ Chg [b0] w2 wq) (fun i _ => (4 - intOf i).toNat)
  case atStart => exact ⟨0, by decide, rfl, hv, Chg.refl _ _⟩
  case round =>
    clear hv
    obtain ⟨m, hm, rfl, hv, hch⟩ := hrel
    rcases hm with rfl | rfl | rfl | rfl | rfl
    · have hcl := VAt.set0 hv (clV (v.a))
      have HCL := Lib.hid hcl
      have HCH := Lib.hid (hch.setCell (p := ⟨b0, 0, none⟩) (by simp) (.int .i32 (clV v.a)))
      have hlr := heap_lt hv
      have c0 := (hv.cell).1
      have fz : wr.frozen? ⟨b0, 0, none⟩ = false := free_of_heap hv
      have hn2 := hch.size
      clear hcl hv hch
      go_wp2_with (go_at_call 100; refine (clampfix_any _ _ _ _).mono ?_; rintro _ _ ⟨rfl, rfl⟩)
      go_roundw
      case rel => exact ⟨1, by decide, rfl, HCL.out, HCH.out⟩
      case measure => simp [intOf]
    · have hcl := VAt.set1 hv (clV (v.b))
      have HCL := Lib.hid hcl
      have HCH := Lib.hid (hch.setCell (p := ⟨b0, 1, none⟩) (by simp) (.int .i32 (clV v.b)))
      have hlr := heap_lt hv
      have c0 := (hv.cell).2.1
      have fz : wr.frozen? ⟨b0, 1, none⟩ = false := free_of_heap hv
      have hn2 := hch.size
      clear hcl hv hch
      go_wp2_with (go_at_call 100; refine (clampfix_any _ _ _ _).mono ?_; rintro _ _ ⟨rfl, rfl⟩)
      go_roundw
      case rel => exact ⟨2, by decide, rfl, HCL.out, HCH.out⟩
      case measure => simp [intOf]
    · have hcl := VAt.set2 hv (clV (v.c))
      have HCL := Lib.hid hcl
      have HCH := Lib.hid (hch.setCell (p := ⟨b0, 2, none⟩) (by simp) (.int .i32 (clV v.c)))
      have hlr := heap_lt hv
      have c0 := (hv.cell).2.2.1
      have fz : wr.frozen? ⟨b0, 2, none⟩ = false := free_of_heap hv
      have hn2 := hch.size
      clear hcl hv hch
      go_wp2_with (go_at_call 100; refine (clampfix_any _ _ _ _).mono ?_; rintro _ _ ⟨rfl, rfl⟩)
      go_roundw
      case rel => exact ⟨3, by decide, rfl, HCL.out, HCH.out⟩
      case measure => simp [intOf]
    · have hcl := VAt.set3 hv (clV (v.d))
      have HCL := Lib.hid hcl
      have HCH := Lib.hid (hch.setCell (p := ⟨b0, 3, none⟩) (by simp) (.int .i32 (clV v.d)))
      have hlr := heap_lt hv
      have c0 := (hv.cell).2.2.2
      have fz : wr.frozen? ⟨b0, 3, none⟩ = false := free_of_heap hv
      have hn2 := hch.size
      clear hcl hv hch
      go_wp2_with (go_at_call 100; refine (clampfix_any _ _ _ _).mono ?_; rintro _ _ ⟨rfl, rfl⟩)
      go_roundw
      case rel => exact ⟨4, by decide, rfl, HCL.out, HCH.out⟩
      case measure => simp [intOf]
    · have hr2 := HR.out.chg hch (by simp)
      have hlr := heap_lt hv
      have hlr2 := heap_lt hr2
      have hld : (@Classical.epsilon _ neV (LdP 26 (.pointer (some ⟨b0, 0, none⟩)))).run Try.prog wr = .ok (.agg #[.int .i32 (clV v.a), .int .i32 (clV v.b), .int .i32 (clV v.c), .int .i32 (clV v.d)]) wr := hv.load
      have hst := hr2.store v.cl
      have hsd := Lib.hid (hr2.stored v.cl)
      have HXF := Lib.hid (HX.out.chgTrans (Chg.trans (hch.mono (N := [b0, b0 + 1]) (by simp)) (chg_setCells (b := b0 + 1) (by simp) v.cl.C 0 wr (Chg.refl _ _))) (by rw [HB0.out]; simp))
      clear hr2 hch hv
      simp only [V4.cl] at hst
      go_wp2_with fail
      have hload := run_loadVar_whole (P := Try.prog) 26 _ hsd.out Try.underlying26 rfl rfl
      refine bodyPost_ret (results_cell1 rfl _ _ _ _ rfl hload) rfl ?_
      exact ⟨rfl, HXF.out⟩
end Go.Proofs.Ytgdcdkajicgliaa
namespace Go.Proofs.Ytgdcdkajicgliaa
open Go.RowKit
set_option linter.unusedVariables false
set_option maxRecDepth 100000
set_option linter.unusedSimpArgs false

def vget (v : V4) (ch : Nat) : Int := v.L.getD ch 0
theorem VAt.at {w : World} {b : Nat} {v : V4} (h : VAt w b v) (ch : Nat) (hc : ch < 4) : w.cell? ⟨b, ch, none⟩ = some (.int .i32 (vget v ch)) := by
  have : ch = 0 ∨ ch = 1 ∨ ch = 2 ∨ ch = 3 := by omega
  rcases this with rfl | rfl | rfl | rfl <;> exact cell_of_heap h rfl
def plainV (f : Int) (ch : Nat) (s d k : V4) : Int :=
  if f = 2 then 65536 else if f = 3 then vget s ch else if f = 5 then vget d ch else if f = 7 then s.d else if f = 9 then d.d else if f = 11 then vget k ch else if f = 13 then k.d else 0
/-- A factor. -/
def factorV (f : Int) (ch : Nat) (s d k : V4) : Int :=
  if f = 15 then (if ch = 3 then 65536 else min s.d (subV 65536 d.d)) else if 4 ≤ f ∧ f % 2 = 0 then subV 65536 (plainV (f - 1) ch s d k) else plainV f ch s d k
def fnP (ps pd pk : Nat) : Value := .func (.func 131) #[] #[.pointer (some ⟨ps, 0, none⟩), .pointer (some ⟨pd, 0, none⟩), .pointer (some ⟨pk, 0, none⟩)]
theorem f_cases {f : Int} (h0 : 1 ≤ f) (h1 : f ≤ 15) : f = 1 ∨ f = 2 ∨ f = 3 ∨ f = 4 ∨ f = 5 ∨ f = 6 ∨ f = 7 ∨ f = 8 ∨ f = 9 ∨ f = 10 ∨ f = 11 ∨ f = 12 ∨ f = 13 ∨ f = 14 ∨ f = 15 := by omega
set_option maxHeartbeats 4000000 in
set_option maxRecDepth 20000 in
theorem plain_any (f : Int) (ch : Nat) (hc : ch < 4) (h0 : 1 ≤ f) (h1 : f ≤ 15) (s d k : V4) (ps pd pk : Nat) (w : World) (hs : VAt w ps s) (hd : VAt w pd d) (hk : VAt w pk k) :
    Calls Try.prog 131 #[.int .i64 f, .int .i64 (ch : Int), .pointer (some ⟨ps, 0, none⟩), .pointer (some ⟨pd, 0, none⟩), .pointer (some ⟨pk, 0, none⟩)] w fun e w' => e = .returned (.int .i32 (plainV f ch s d k)) ∧ w = w' := by
  have s0 := hs.at ch hc
  have d0 := hd.at ch hc
  have k0 := hk.at ch hc
  have s3 := hs.cell.2.2.2
  have d3 := hd.cell.2.2.2
  have k3 := hk.cell.2.2.2
  have ls := heap_lt hs
  have ld := heap_lt hd
  have lk := heap_lt hk
  have hc4 : (ch : Int) < 4 := by omega
  clear hs hd hk
  have hcs := f_cases h0 h1
  clear h0 h1
  rcases hcs with rfl | rfl | rfl | rfl | rfl | rfl | rfl | rfl | rfl | rfl | rfl | rfl | rfl | rfl | rfl
  all_goals go_enter Try.func131, Try.ntmps131
  all_goals go_wp2
  all_goals go_ret
  all_goals exact ⟨rfl, rfl⟩

def fnF (ps pd pf : Nat) : Value := .func (.func 132) #[] #[.pointer (some ⟨ps, 0, none⟩), .pointer (some ⟨pd, 0, none⟩), .pointer (some ⟨pf, 0, none⟩)]
theorem quiet_same {f : FuncId} {args : Array Value} {w : World} {n : Nat} {v : Value}
    (h : Calls Try.prog f args (w.drewN n) fun e w' => e = .returned v ∧ w.drewN n = w') : Calls Try.prog f args (w.drewN n) fun e w'' => e = .returned v ∧ ∃ m, w'' = w.drewN m :=
  h.mono fun _ _ ⟨he, hm⟩ => ⟨he, n, hm.symm⟩


set_option maxHeartbeats 4000000 in
set_option maxRecDepth 20000 in
theorem factor_any (f : Int) (ch : Nat) (hc : ch < 4) (h0 : 1 ≤ f) (h1 : f ≤ 15) (s d k : V4) (ps pd pk pf : Nat) (w : World) (hs : VAt w ps s) (hd : VAt w pd d) (hk : VAt w pk k) (hf : w.heap[pf]? = some (.cells #[fnP ps pd pk] 193 (0, 0))) :
    Calls Try.prog 132 #[.int .i64 f, .int .i64 (ch : Int), .pointer (some ⟨ps, 0, none⟩), .pointer (some ⟨pd, 0, none⟩), .pointer (some ⟨pf, 0, none⟩)] w fun e w' => e = .returned (.int .i32 (factorV f ch s d k)) ∧ ∃ n, w' = w.drewN n := by
  have HP := Lib.hid (fun (g : Int) (g0 : 1 ≤ g) (g1 : g ≤ 15) => plain_any g ch hc g0 g1 s d k ps pd pk w hs hd hk)
  have s3 := hs.cell.2.2.2
  have d3 := hd.cell.2.2.2
  have ls := heap_lt hs
  have ld := heap_lt hd
  have lf := heap_lt hf
  have f0 : w.cell? ⟨pf, 0, none⟩ = some (fnP ps pd pk) := cell_of_heap hf rfl
  simp only [fnP] at f0
  have hc4 : (ch : Int) < 4 := by omega
  clear hs hd hk hf
  have hcs := f_cases h0 h1
  clear h0 h1
  rcases hcs with rfl | rfl | rfl | rfl | rfl | rfl | rfl | rfl | rfl | rfl | rfl | rfl | rfl | rfl | rfl
  · go_enter Try.func132, Try.ntmps132
    go_wp2_with (go_at_call 131; refine (HP.out 1 (by decide) (by decide)).mono ?_; rintro _ _ ⟨rfl, rfl⟩)
    all_goals go_ret
    exact ⟨rfl, 0, rfl⟩
  · go_enter Try.func132, Try.ntmps132
    go_wp2_with (go_at_call 131; refine (HP.out 2 (by decide) (by decide)).mono ?_; rintro _ _ ⟨rfl, rfl⟩)
    all_goals go_ret
    exact ⟨rfl, 0, rfl⟩
  · go_enter Try.func132, Try.ntmps132
    go_wp2_with (go_at_call 131; refine (HP.out 3 (by decide) (by decide)).mono ?_; rintro _ _ ⟨rfl, rfl⟩)
    all_goals go_ret
    exact ⟨rfl, 0, rfl⟩
  · go_enter Try.func132, Try.ntmps132
    go_wp2_with (first
      | (go_at_call 131; refine (HP.out 3 (by decide) (by decide)).mono ?_; rintro _ _ ⟨rfl, rfl⟩)
      | (go_at_call 123; refine (subfix_any _ _ _).mono ?_; rintro _ _ ⟨rfl, rfl⟩))
    all_goals go_ret
    exact ⟨rfl, 0, rfl⟩
  · go_enter Try.func132, Try.ntmps132
    go_wp2_with (go_at_call 131; refine (HP.out 5 (by decide) (by decide)).mono ?_; rintro _ _ ⟨rfl, rfl⟩)
    all_goals go_ret
    exact ⟨rfl, 0, rfl⟩
  · go_enter Try.func132, Try.ntmps132
    go_wp2_with (first
      | (go_at_call 131; refine (HP.out 5 (by decide) (by decide)).mono ?_; rintro _ _ ⟨rfl, rfl⟩)
      | (go_at_call 123; refine (subfix_any _ _ _).mono ?_; rintro _ _ ⟨rfl, rfl⟩))
    all_goals go_ret
    exact ⟨rfl, 0, rfl⟩
  · go_enter Try.func132, Try.ntmps132
    go_wp2_with (go_at_call 131; refine (HP.out 7 (by decide) (by decide)).mono ?_; rintro _ _ ⟨rfl, rfl⟩)
    all_goals go_ret
    exact ⟨rfl, 0, rfl⟩
  · go_enter Try.func132, Try.ntmps132
    go_wp2_with (first
      | (go_at_call 131; refine (HP.out 7 (by decide) (by decide)).mono ?_; rintro _ _ ⟨rfl, rfl⟩)
      | (go_at_call 123; refine (subfix_any _ _ _).mono ?_; rintro _ _ ⟨rfl, rfl⟩))
    all_goals go_ret
    exact ⟨rfl, 0, rfl⟩
  · go_enter Try.func132, Try.ntmps132
    go_wp2_with (go_at_call 131; refine (HP.out 9 (by decide) (by decide)).mono ?_; rintro _ _ ⟨rfl, rfl⟩)
    all_goals go_ret
    exact ⟨rfl, 0, rfl⟩
  · go_enter Try.func132, Try.ntmps132
    go_wp2_with (first
      | (go_at_call 131; refine (HP.out 9 (by decide) (by decide)).mono ?_; rintro _ _ ⟨rfl, rfl⟩)
      | (go_at_call 123; refine (subfix_any _ _ _).mono ?_; rintro _ _ ⟨rfl, rfl⟩))
    all_goals go_ret
    exact ⟨rfl, 0, rfl⟩
  · go_enter Try.func132, Try.ntmps132
    go_wp2_with (go_at_call 131; refine (HP.out 11 (by decide) (by decide)).mono ?_; rintro _ _ ⟨rfl, rfl⟩)
    all_goals go_ret
    exact ⟨rfl, 0, rfl⟩
  · go_enter Try.func132, Try.ntmps132
    go_wp2_with (first
      | (go_at_call 131; refine (HP.out 11 (by decide) (by decide)).mono ?_; rintro _ _ ⟨rfl, rfl⟩)
      | (go_at_call 123; refine (subfix_any _ _ _).mono ?_; rintro _ _ ⟨rfl, rfl⟩))
    all_goals go_ret
    exact ⟨rfl, 0, rfl⟩
  · go_enter Try.func132, Try.ntmps132
    go_wp2_with (go_at_call 131; refine (HP.out 13 (by decide) (by decide)).mono ?_; rintro _ _ ⟨rfl, rfl⟩)
    all_goals go_ret
    exact ⟨rfl, 0, rfl⟩
  · go_enter Try.func132, Try.ntmps132
    go_wp2_with (first
      | (go_at_call 131; refine (HP.out 13 (by decide) (by decide)).mono ?_; rintro _ _ ⟨rfl, rfl⟩)
      | (go_at_call 123; refine (subfix_any _ _ _).mono ?_; rintro _ _ ⟨rfl, rfl⟩))
    all_goals go_ret
    exact ⟨rfl, 0, rfl⟩
  · have HC3 : Hid (factorV 15 ch s d k = if ch = 3 then 65536 else min s.d (subV 65536 d.d)) := Lib.hid rfl
    by_cases hc3 : ch = 3
    · subst hc3
      go_enter Try.func132, Try.ntmps132
      go_wp2
      all_goals go_ret
      exact ⟨rfl, 0, rfl⟩
    · have hn3 : ((ch : Int) == 3) = false := by simp; omega
      rw [HC3.out, if_neg hc3]
      clear HC3
      go_enter Try.func132, Try.ntmps132
      go_upto_region 4 with fail
      go_quiet (first | (go_at_call 123; refine quiet_same (subfix_any _ _ _)) | (go_at_call 133; refine quiet_same (minfix_any _ _ _)))
      go_wp2
      go_ret
      exact ⟨rfl, _, rfl⟩

end Go.Proofs.Ytgdcdkajicgliaa
namespace Go.Proofs.Ytgdcdkajicgliaa
open Go.RowKit
set_option linter.unusedVariables false
set_option maxRecDepth 100000
set_option linter.unusedSimpArgs false

theorem heap_three (w : World) (A B C : Obj) : ∃ w3, ((w.alloc A).alloc B).alloc C = w3 ∧ w3.heap[w.heap.size]? = some A ∧ w3.heap[w.heap.size + 1]? = some B ∧ w3.heap[w.heap.size + 1 + 1]? = some C ∧ Ext w w3 :=
  ⟨_, rfl, heap_first _ _ _ _, heap_second _ _ _ _, heap_third _ _ _ _, (((Ext.refl _).alloc _).alloc _).alloc _⟩
set_option maxHeartbeats 8000000 in
set_option maxRecDepth 20000 in
theorem rfactor_any (f : Int) (ch : Nat) (hc : ch < 4) (h0 : 1 ≤ f) (h1 : f ≤ 15) (s d k : V4) (w : World) :
    Calls Try.prog 127 #[.int .i64 f, .int .i64 (ch : Int), .agg s.C.toArray, .agg d.C.toArray, .agg k.C.toArray] w fun e w' => e = .returned (.int .i32 (factorV f ch s d k)) ∧ Ext w w' := by
  obtain ⟨w3, hw3, hs, hd, hk, hx⟩ := heap_three w (.cells s.C.toArray 26) (.cells d.C.toArray 26) (.cells k.C.toArray 26)
  have s0 := VAt.at hs ch hc
  have d0 := VAt.at hd ch hc
  have k0 := VAt.at hk ch hc
  have s3 := (VAt.cell hs).2.2.2
  have d3 := (VAt.cell hd).2.2.2
  have k3 := (VAt.cell hk).2.2.2
  have ls := heap_lt hs
  have ld := heap_lt hd
  have lk := heap_lt hk
  have HX := Lib.hid hx
  have HW := Lib.hid hw3
  have hc4 : (ch : Int) < 4 := by omega
  clear hs hd hk hx hw3
  have hcs := f_cases h0 h1
  clear h0 h1
  rcases hcs with rfl | rfl | rfl | rfl | rfl | rfl | rfl | rfl | rfl | rfl | rfl | rfl | rfl | rfl | rfl
  · go_enter Try.func127, Try.ntmps127
    go_upto_region 1 with fail
    rw [HW.out]
    generalize w.heap.size = b0 at *
    go_wp2_with (go_at_call 129; refine (rsub_any _ _ _).mono ?_; rintro _ _ ⟨rfl, rfl⟩)
    all_goals go_ret
    exact ⟨rfl, HX.out⟩
  · go_enter Try.func127, Try.ntmps127
    go_upto_region 1 with fail
    rw [HW.out]
    generalize w.heap.size = b0 at *
    go_wp2_with (go_at_call 129; refine (rsub_any _ _ _).mono ?_; rintro _ _ ⟨rfl, rfl⟩)
    all_goals go_ret
    exact ⟨rfl, HX.out⟩
  · go_enter Try.func127, Try.ntmps127
    go_upto_region 1 with fail
    rw [HW.out]
    generalize w.heap.size = b0 at *
    go_wp2_with (go_at_call 129; refine (rsub_any _ _ _).mono ?_; rintro _ _ ⟨rfl, rfl⟩)
    all_goals go_ret
    exact ⟨rfl, HX.out⟩
  · go_enter Try.func127, Try.ntmps127
    go_upto_region 1 with fail
    rw [HW.out]
    generalize w.heap.size = b0 at *
    go_wp2_with (go_at_call 129; refine (rsub_any _ _ _).mono ?_; rintro _ _ ⟨rfl, rfl⟩)
    all_goals go_ret
    exact ⟨rfl, HX.out⟩
  · go_enter Try.func127, Try.ntmps127
    go_upto_region 1 with fail
    rw [HW.out]
    generalize w.heap.size = b0 at *
    go_wp2_with (go_at_call 129; refine (rsub_any _ _ _).mono ?_; rintro _ _ ⟨rfl, rfl⟩)
    all_goals go_ret
    exact ⟨rfl, HX.out⟩
  · go_enter Try.func127, Try.ntmps127
    go_upto_region 1 with fail
    rw [HW.out]
    generalize w.heap.size = b0 at *
    go_wp2_with (go_at_call 129; refine (rsub_any _ _ _).mono ?_; rintro _ _ ⟨rfl, rfl⟩)
    all_goals go_ret
    exact ⟨rfl, HX.out⟩
  · go_enter Try.func127, Try.ntmps127
    go_upto_region 1 with fail
    rw [HW.out]
    generalize w.heap.size = b0 at *
    go_wp2_with (go_at_call 129; refine (rsub_any _ _ _).mono ?_; rintro _ _ ⟨rfl, rfl⟩)
    all_goals go_ret
    exact ⟨rfl, HX.out⟩
  · go_enter Try.func127, Try.ntmps127
    go_upto_region 1 with fail
    rw [HW.out]
    generalize w.heap.size = b0 at *
    go_wp2_with (go_at_call 129; refine (rsub_any _ _ _).mono ?_; rintro _ _ ⟨rfl, rfl⟩)
    all_goals go_ret
    exact ⟨rfl, HX.out⟩
  · go_enter Try.func127, Try.ntmps127
    go_upto_region 1 with fail
    rw [HW.out]
    generalize w.heap.size = b0 at *
    go_wp2_with (go_at_call 129; refine (rsub_any _ _ _).mono ?_; rintro _ _ ⟨rfl, rfl⟩)
    all_goals go_ret
    exact ⟨rfl, HX.out⟩
  · go_enter Try.func127, Try.ntmps127
    go_upto_region 1 with fail
    rw [HW.out]
    generalize w.heap.size = b0 at *
    go_wp2_with (go_at_call 129; refine (rsub_any _ _ _).mono ?_; rintro _ _ ⟨rfl, rfl⟩)
    all_goals go_ret
    exact ⟨rfl, HX.out⟩
  · go_enter Try.func127, Try.ntmps127
    go_upto_region 1 with fail
    rw [HW.out]
    generalize w.heap.size = b0 at *
    go_wp2_with (go_at_call 129; refine (rsub_any _ _ _).mono ?_; rintro _ _ ⟨rfl, rfl⟩)
    all_goals go_ret
    exact ⟨rfl, HX.out⟩
  · go_enter Try.func127, Try.ntmps127
    go_upto_region 1 with fail
    rw [HW.out]
    generalize w.heap.size = b0 at *
    go_wp2_with (go_at_call 129; refine (rsub_any _ _ _).mono ?_; rintro _ _ ⟨rfl, rfl⟩)
    all_goals go_ret
    exact ⟨rfl, HX.out⟩
  · go_enter Try.func127, Try.ntmps127
    go_upto_region 1 with fail
    rw [HW.out]
    generalize w.heap.size = b0 at *
    go_wp2_with (go_at_call 129; refine (rsub_any _ _ _).mono ?_; rintro _ _ ⟨rfl, rfl⟩)
    all_goals go_ret
    exact ⟨rfl, HX.out⟩
  · go_enter Try.func127, Try.ntmps127
    go_upto_region 1 with fail
    rw [HW.out]
    generalize w.heap.size = b0 at *
    go_wp2_with (go_at_call 129; refine (rsub_any _ _ _).mono ?_; rintro _ _ ⟨rfl, rfl⟩)
    all_goals go_ret
    exact ⟨rfl, HX.out⟩
  · have HC3 : Hid (factorV 15 ch s d k = if ch = 3 then 65536 else min s.d (subV 65536 d.d)) := Lib.hid rfl
    by_cases hc3 : ch = 3
    · subst hc3
      go_enter Try.func127, Try.ntmps127
      go_upto_region 1 with fail
      rw [HW.out]
      generalize w.heap.size = b0 at *
      go_wp2
      all_goals go_ret
      exact ⟨rfl, HX.out⟩
    · have hn3 : ((ch : Int) == 3) = false := by simp; omega
      rw [HC3.out, if_neg hc3]
      clear HC3
      go_enter Try.func127, Try.ntmps127
      go_upto_region 1 with fail
      rw [HW.out]
      generalize w.heap.size = b0 at *
      go_upto_region 6 with fail
      go_quiet (first | (go_at_call 129; refine quiet_same (rsub_any _ _ _)) | (go_at_call 124; refine quiet_same (rmin_any _ _ _)))
      go_wp2
      go_ret
      exact ⟨rfl, HX.out.drewN _⟩
end Go.Proofs.Ytgdcdkajicgliaa
namespace Go.Proofs.Ytgdcdkajicgliaa
open Go.RowKit
set_option linter.unusedVariables false
set_option maxRecDepth 100000
set_option linter.unusedSimpArgs false

set_option maxHeartbeats 2000000 in
set_option maxRecDepth 20000 in
theorem factors_any (s d k : V4) (w : World) : Calls Try.prog 120 #[.agg s.C.toArray, .agg d.C.toArray, .agg k.C.toArray] w fun e w' =>
    ∃ ps pd pk pf : Nat, e = .returned (fnF ps pd pf) ∧ VAt w' ps s ∧ VAt w' pd d ∧ VAt w' pk k ∧ w'.heap[pf]? = some (.cells #[fnP ps pd pk] 193 (0, 0)) ∧ Ext w w' := by
  obtain ⟨w3, hw3, hs, hd, hk, hx⟩ := heap_three w (.cells s.C.toArray 26) (.cells d.C.toArray 26) (.cells k.C.toArray 26)
  have HW := Lib.hid hw3
  clear hw3
  go_enter Try.func120, Try.ntmps120
  go_upto_region 1 with fail
  rw [HW.out]
  generalize w.heap.size = b0 at *
  go_wp2
  go_ret
  refine ⟨b0, b0 + 1, b0 + 1 + 1, w3.heap.size, rfl, ?_, ?_, ?_, ?_, ?_⟩
  · exact VAt.ext hs ((Ext.refl _).alloc _)
  · exact VAt.ext hd ((Ext.refl _).alloc _)
  · exact VAt.ext hk ((Ext.refl _).alloc _)
  · exact heap_alloc_new _ _
  · exact hx.alloc _
def blendOf (s : St) (ch : Nat) : Bl := if ch = 3 then s.al else s.rgb
def zV (eqn x y : Int) : Int := if eqn = 1 then addV x y else if eqn = 2 then subV x y else subV y x
def mixCh (s : St) (c old : V4) (ch : Nat) : Int :=
  zV (blendOf s ch).eqn (mulV (vget c ch) (factorV (blendOf s ch).src ch c old s.k)) (mulV (vget old ch) (factorV (blendOf s ch).dst ch c old s.k))
/-- What two colours are together. -/
def mixV (s : St) (color old : V4) : V4 :=
  if s.bl then V4.cl ⟨mixCh s color.cl old 0, mixCh s color.cl old 1, mixCh s color.cl old 2, mixCh s color.cl old 3⟩ else color.cl
theorem blOk_of {s : St} (h : stOk s = true) (ch : Nat) : (1 ≤ (blendOf s ch).eqn ∧ (blendOf s ch).eqn ≤ 3) ∧ (1 ≤ (blendOf s ch).src ∧ (blendOf s ch).src ≤ 15) ∧ (1 ≤ (blendOf s ch).dst ∧ (blendOf s ch).dst ≤ 14) := by
  unfold stOk at h
  simp only [Bool.and_eq_true, List.all_cons, List.all_nil, Bool.and_true] at h
  have h1 := h.2.1
  have h2 := h.2.2
  unfold blendOf
  split
  · simpa [blOk, inV, and_assoc] using h2
  · simpa [blOk, inV, and_assoc] using h1
end Go.Proofs.Ytgdcdkajicgliaa
