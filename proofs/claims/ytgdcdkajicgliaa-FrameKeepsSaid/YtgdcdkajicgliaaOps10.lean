/- Contract of the document's Right. Conditions: each theorem's own premises. -/
import Derived.Test.YtgdcdkajicgliaaOps9
namespace Go.Proofs.Ytgdcdkajicgliaa
open Go.RowKit
set_option linter.unusedVariables false
set_option maxRecDepth 100000
set_option linter.unusedSimpArgs false
attribute [local go_sem ↓] Ld_St Ld_Sten Ld_Bl Ld_V4
attribute [local go_sem] idxS0 idxS1 idxB0 idxB1 idxI0 idxI1 idxI2

theorem blOk_eq (t : Bl) : blOk t = !(decide (t.eqn < 1) || decide (3 < t.eqn) || decide (t.src < 1) || decide (15 < t.src) || decide (t.dst < 1) || decide (14 < t.dst)) := by
  have h : ∀ a b : Int, (!decide (a < b)) = decide (b ≤ a) := fun a b => by by_cases h : a < b <;> simp [h] <;> omega
  simp only [blOk, inV, Bool.not_or, h, Bool.and_assoc]
theorem stOk_eq (s : St) : stOk s = ([s.rgb, s.al].all blOk && (decide (0 ≤ s.w) && decide (0 ≤ s.h) && stenOk s.f && stenOk s.b && decide (1 ≤ s.df) && decide (s.df ≤ 8) && !(s.k.L.any outV))) := by
  unfold stOk stHead inV
  simp only [List.all_cons, List.all_nil, Bool.and_true]
  generalize decide (0 ≤ s.w) = a1
  generalize decide (0 ≤ s.h) = a2
  generalize decide (1 ≤ s.df) = a3
  generalize decide (s.df ≤ 8) = a4
  generalize (s.k.L.any outV) = a5
  generalize stenOk s.f = a6
  generalize stenOk s.b = a7
  generalize blOk s.rgb = a8
  generalize blOk s.al = a9
  revert a1 a2 a3 a4 a5 a6 a7 a8 a9
  decide
set_option maxHeartbeats 4000000 in
set_option maxRecDepth 30000 in
theorem right_any (s : St) (w : World) : Calls Try.prog 30 #[.agg s.C.toArray] w fun e w' => e = .returned (.bool (stOk s)) ∧ Ext w w' := by
  have HV := Lib.hid (stOk_eq s)
  go_enter Try.func30, Try.ntmps30
  go_upto_region 1 with fail
  obtain ⟨w1, hw1e, hst, hx1⟩ : ∃ w1, w.alloc (.cells s.C.toArray 42) = w1 ∧ StAt w1 w.heap.size s ∧ Ext w w1 := ⟨_, rfl, heap_alloc_new _ _, (Ext.refl _).alloc _⟩
  rw [hw1e]
  have r1 : (@Classical.epsilon _ neV (LdP 39 (.pointer (some ⟨w.heap.size, 24, none⟩)))).run Try.prog w1 = .ok (.agg #[.int .i64 s.rgb.eqn, .int .i64 s.rgb.src, .int .i64 s.rgb.dst]) w1 := hst.loadR
  have r2 : (@Classical.epsilon _ neV (LdP 39 (.pointer (some ⟨w.heap.size, 27, none⟩)))).run Try.prog w1 = .ok (.agg #[.int .i64 s.al.eqn, .int .i64 s.al.src, .int .i64 s.al.dst]) w1 := hst.loadA
  have hlt := heap_lt hst
  have HST := Lib.hid hst
  have HX1 := Lib.hid hx1
  clear hst hx1 hw1e
  generalize w.heap.size = b0 at *
  go_wp2_with fail
  clear r1 r2
  go_loopw [10] (fun i wq => ∃ m : Int, (m = 0 ∨ m = 1 ∨ m = 2) ∧ i = .int .i64 m ∧ ([s.rgb, s.al].take m.toNat).all blOk = true ∧ Ext w1 wq) (fun i _ => (2 - intOf i).toNat)
  case atStart => exact ⟨0, by decide, rfl, rfl, Ext.refl _⟩
  case round =>
    obtain ⟨m, hm, rfl, hall, hxq⟩ := hrel
    rcases hm with rfl | rfl | rfl
    · have HB := Lib.hid (blOk_eq s.rgb)
      have HA := Lib.hid (show ([s.rgb, s.al].take (Int.toNat 1)).all blOk = ((([s.rgb, s.al].take (Int.toNat 0)).all blOk) && blOk s.rgb) by simp)
      have HN := Lib.hid (show blOk s.rgb = false → stOk s = false by intro h; rw [HV.out]; simp [h])
      have HALL := Lib.hid hall
      clear hall
      rename World => wq
      go_upto_region 4 with fail
      obtain ⟨w2, hw2e, hT, hx2⟩ : ∃ w2, wq.alloc (.cells #[.int .i64 s.rgb.eqn, .int .i64 s.rgb.src, .int .i64 s.rgb.dst] 39) = w2 ∧ w2.heap[wq.heap.size]? = some (.cells #[.int .i64 s.rgb.eqn, .int .i64 s.rgb.src, .int .i64 s.rgb.dst] 39 (0, 0)) ∧ Ext wq w2 := ⟨_, rfl, heap_alloc_new _ _, (Ext.refl _).alloc _⟩
      rw [hw2e]
      have g0 : w2.cell? ⟨wq.heap.size, 0, none⟩ = some (.int .i64 s.rgb.eqn) := cell_of_heap hT rfl
      have g1 : w2.cell? ⟨wq.heap.size, 1, none⟩ = some (.int .i64 s.rgb.src) := cell_of_heap hT rfl
      have g2 : w2.cell? ⟨wq.heap.size, 2, none⟩ = some (.int .i64 s.rgb.dst) := cell_of_heap hT rfl
      have hlt3 := heap_lt hT
      have HX2 := Lib.hid (hxq.trans hx2)
      clear hxq hx2 hw2e hT
      generalize wq.heap.size = b2 at *
      go_wp2_with fail
      all_goals first
        | (go_ret; exact ⟨ret_bool (by rw [HN.out (by rw [HB.out]; simp; omega)]), HX1.out.trans HX2.out⟩)
        | (have hb : blOk s.rgb = true := (by rw [HB.out]; simp; omega)
           have HBB := Lib.hid hb
           clear hb
           go_roundw
           case rel => exact ⟨1, by decide, rfl, by rw [HA.out, HALL.out, HBB.out]; rfl, HX2.out⟩
           case measure => simp [intOf])
    · have HB := Lib.hid (blOk_eq s.al)
      have HA := Lib.hid (show ([s.rgb, s.al].take (Int.toNat 2)).all blOk = ((([s.rgb, s.al].take (Int.toNat 1)).all blOk) && blOk s.al) by simp)
      have HN := Lib.hid (show blOk s.al = false → stOk s = false by intro h; rw [HV.out]; simp [h])
      have HALL := Lib.hid hall
      clear hall
      rename World => wq
      go_upto_region 4 with fail
      obtain ⟨w2, hw2e, hT, hx2⟩ : ∃ w2, wq.alloc (.cells #[.int .i64 s.al.eqn, .int .i64 s.al.src, .int .i64 s.al.dst] 39) = w2 ∧ w2.heap[wq.heap.size]? = some (.cells #[.int .i64 s.al.eqn, .int .i64 s.al.src, .int .i64 s.al.dst] 39 (0, 0)) ∧ Ext wq w2 := ⟨_, rfl, heap_alloc_new _ _, (Ext.refl _).alloc _⟩
      rw [hw2e]
      have g0 : w2.cell? ⟨wq.heap.size, 0, none⟩ = some (.int .i64 s.al.eqn) := cell_of_heap hT rfl
      have g1 : w2.cell? ⟨wq.heap.size, 1, none⟩ = some (.int .i64 s.al.src) := cell_of_heap hT rfl
      have g2 : w2.cell? ⟨wq.heap.size, 2, none⟩ = some (.int .i64 s.al.dst) := cell_of_heap hT rfl
      have hlt3 := heap_lt hT
      have HX2 := Lib.hid (hxq.trans hx2)
      clear hxq hx2 hw2e hT
      generalize wq.heap.size = b2 at *
      go_wp2_with fail
      all_goals first
        | (go_ret; exact ⟨ret_bool (by rw [HN.out (by rw [HB.out]; simp; omega)]), HX1.out.trans HX2.out⟩)
        | (have hb : blOk s.al = true := (by rw [HB.out]; simp; omega)
           have HBB := Lib.hid hb
           clear hb
           go_roundw
           case rel => exact ⟨2, by decide, rfl, by rw [HA.out, HALL.out, HBB.out]; rfl, HX2.out⟩
           case measure => simp [intOf])
    · have HALL := Lib.hid (show [s.rgb, s.al].all blOk = true from hall)
      have hsr := HST.out.ext hxq
      have HXR := Lib.hid (HX1.out.trans hxq)
      have hlr := Nat.lt_of_lt_of_le hlt hxq.size
      clear hxq hall HST HX1
      have c3 : wr.cell? ⟨b0, 3, none⟩ = some (.int .i64 s.w) := cell_of_heap hsr rfl
      have c4 : wr.cell? ⟨b0, 4, none⟩ = some (.int .i64 s.h) := cell_of_heap hsr rfl
      have c22 : wr.cell? ⟨b0, 22, none⟩ = some (.int .i64 s.df) := cell_of_heap hsr rfl
      have l1 := hsr.loadF
      have HSR := Lib.hid hsr
      clear hsr
      have HV2 : Hid (stOk s = (decide (0 ≤ s.w) && decide (0 ≤ s.h) && stenOk s.f && stenOk s.b && decide (1 ≤ s.df) && decide (s.df ≤ 8) && !(s.k.L.any outV))) := Lib.hid (by rw [HV.out, HALL.out]; simp)
      clear HV
      go_wp2_with (first
        | (go_at_call_of 69 (Value.agg s.f.C.toArray); refine (rside_any s.f _).mono ?_; rintro _ w5 ⟨rfl, hx5⟩; have l2 := (HSR.out.ext hx5).loadB)
        | (go_at_call_of 69 (Value.agg s.b.C.toArray); refine (rside_any s.b _).mono ?_; rintro _ w6 ⟨rfl, hx6⟩; have l3 := ((HSR.out.ext (by assumption)).ext hx6).loadK; have c22 : w6.cell? ⟨b0, 22, none⟩ = some (.int .i64 s.df) := cell_of_heap ((HSR.out.ext (by assumption)).ext hx6) rfl; have hl6 := heap_lt ((HSR.out.ext (by assumption)).ext hx6))
        | (go_at_call 70; refine (units_any s.k _).mono ?_; rintro _ w7 ⟨rfl, hx7⟩))
      all_goals go_ret
      all_goals refine ⟨ret_bool (by rw [HV2.out]; first | (simp [*]; done) | (simp [*]; omega)), ?_⟩
      all_goals first | exact HXR.out | exact (HXR.out.trans hx5) | exact ((HXR.out.trans hx5).trans hx6) | exact (((HXR.out.trans hx5).trans hx6).trans hx7)
end Go.Proofs.Ytgdcdkajicgliaa
