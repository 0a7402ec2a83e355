/- Contract of Check. Conditions: each theorem's own premises. -/
import Derived.Test.YtgdcdkajicgliaaOpsIx
namespace Go.Proofs.Ytgdcdkajicgliaa
open Go.RowKit
set_option linter.unusedVariables false
set_option maxRecDepth 100000
set_option linter.unusedSimpArgs false
attribute [local go_sem ↓] Ld_St Ld_Sten Ld_Bl Ld_V4
attribute [local go_sem] idxS0 idxS1 idxB0 idxB1 idxI0 idxI1 idxI2

set_option maxHeartbeats 4000000 in
set_option maxRecDepth 30000 in
theorem check_any (s : St) (w : World) : Calls Try.prog 58 #[.agg s.C.toArray] w fun e w' => e = .returned (.int .i64 (if stOk s then 0 else 340)) ∧ Ext w w' := by
  generalize hV : (if stOk s = true then (0 : Int) else 340) = V
  have HV := Lib.hid hV
  clear hV
  go_enter Try.func58, Try.ntmps58
  go_upto_region 1 with fail
  obtain ⟨w1, hw1e, hst, hx1⟩ : ∃ w1, w.alloc (.cells s.C.toArray 42) = w1 ∧ StAt w1 w.heap.size s ∧ Ext w w1 := ⟨_, rfl, heap_alloc_new _ _, (Ext.refl _).alloc _⟩
  rw [hw1e]
  have c3 : w1.cell? ⟨w.heap.size, 3, none⟩ = some (.int .i64 s.w) := cell_of_heap hst rfl
  have c4 : w1.cell? ⟨w.heap.size, 4, none⟩ = some (.int .i64 s.h) := cell_of_heap hst rfl
  have c22 : w1.cell? ⟨w.heap.size, 22, none⟩ = some (.int .i64 s.df) := cell_of_heap hst rfl
  have hK := Lib.hid hst.cellK
  have hlt := heap_lt hst
  go_cut [3] (fun ok wc => ok = .bool (stHead s) ∧ wc = w1)
  case first =>
    have hh := Lib.hid (show stHead s = (decide (0 ≤ s.w) && decide (0 ≤ s.h) && inV s.df 1 8 && !(s.k.L.any outV)) from rfl)
    go_wp2_with (first
      | (go_at_call 86; refine (in_any _ _ _ _).mono ?_; rintro _ _ ⟨rfl, rfl⟩)
      | (go_at_call 87; refine (containsOut_any _ _ s.k.L rfl _ hK.out).mono ?_; rintro _ _ ⟨rfl, rfl⟩))
    all_goals go_meet
    all_goals refine ⟨?_, rfl⟩
    all_goals rw [hh.out]
    · simp [*]
    · simp [*]
    · rw [show decide (0 ≤ s.h) = false by simp; omega]; simp
    · rw [show decide (0 ≤ s.w) = false by simp; omega]; simp
  case rest =>
    obtain ⟨rfl, rfl⟩ := hcut
    have HOK := Lib.hid (show stOk s = (stHead s && [s.f, s.b].all stenOk && [s.rgb, s.al].all blOk) from rfl)
    have f1 : (@Classical.epsilon _ neV (LdP 37 (.pointer (some ⟨w.heap.size, 6, none⟩)))).run Try.prog wc = .ok (.agg #[.int .i64 s.f.fn, .int .i64 s.f.rf, .int .i64 s.f.mask, .int .i64 s.f.write, .int .i64 s.f.fl, .int .i64 s.f.zf, .int .i64 s.f.zp]) wc := hst.loadF
    have f2 : (@Classical.epsilon _ neV (LdP 37 (.pointer (some ⟨w.heap.size, 13, none⟩)))).run Try.prog wc = .ok (.agg #[.int .i64 s.b.fn, .int .i64 s.b.rf, .int .i64 s.b.mask, .int .i64 s.b.write, .int .i64 s.b.fl, .int .i64 s.b.zf, .int .i64 s.b.zp]) wc := hst.loadB
    have HST := Lib.hid hst
    have HX1 := Lib.hid hx1
    clear hst hx1 hw1e c3 c4 c22 hK
    generalize stHead s = ok0 at *
    go_wp2_with fail
    clear f1 f2
    go_loopw [3, 38] (fun okv i wq => ∃ m : Int, (m = 0 ∨ m = 1 ∨ m = 2) ∧ i = .int .i64 m ∧ okv = .bool (ok0 && ([s.f, s.b].take m.toNat).all stenOk) ∧ Ext wc wq) (fun _ i _ => (2 - intOf i).toNat)
    case atStart => exact ⟨0, by decide, rfl, by simp, Ext.refl _⟩
    case round =>
      obtain ⟨m, hm, rfl, rfl, hxq⟩ := hrel
      rcases hm with rfl | rfl | rfl
      · have hok0 := Lib.hid (show (ok0 && ([s.f, s.b].take (Int.toNat 1)).all stenOk) = ((ok0 && ([s.f, s.b].take (Int.toNat 0)).all stenOk) && stenOk s.f) by simp [Bool.and_assoc])
        generalize (ok0 && ([s.f, s.b].take (Int.toNat 0)).all stenOk) = oka at *
        go_upto_region 5 with fail
        obtain ⟨w2, hw2e, hT, hx2⟩ : ∃ w2, wr.alloc (.cells #[.int .i64 s.f.fn, .int .i64 s.f.rf, .int .i64 s.f.mask, .int .i64 s.f.write, .int .i64 s.f.fl, .int .i64 s.f.zf, .int .i64 s.f.zp] 37) = w2 ∧ w2.heap[wr.heap.size]? = some (.cells #[.int .i64 s.f.fn, .int .i64 s.f.rf, .int .i64 s.f.mask, .int .i64 s.f.write, .int .i64 s.f.fl, .int .i64 s.f.zf, .int .i64 s.f.zp] 37 (0, 0)) ∧ Ext wr w2 := ⟨_, rfl, heap_alloc_new _ _, (Ext.refl _).alloc _⟩
        rw [hw2e]
        have g0 : w2.cell? ⟨wr.heap.size, 0, none⟩ = some (.int .i64 s.f.fn) := cell_of_heap hT rfl
        have g1 : w2.cell? ⟨wr.heap.size, 1, none⟩ = some (.int .i64 s.f.rf) := cell_of_heap hT rfl
        have g2 : w2.cell? ⟨wr.heap.size, 2, none⟩ = some (.int .i64 s.f.mask) := cell_of_heap hT rfl
        have g3 : w2.cell? ⟨wr.heap.size, 3, none⟩ = some (.int .i64 s.f.write) := cell_of_heap hT rfl
        have g4 : w2.cell? ⟨wr.heap.size, 4, none⟩ = some (.int .i64 s.f.fl) := cell_of_heap hT rfl
        have g5 : w2.cell? ⟨wr.heap.size, 5, none⟩ = some (.int .i64 s.f.zf) := cell_of_heap hT rfl
        have g6 : w2.cell? ⟨wr.heap.size, 6, none⟩ = some (.int .i64 s.f.zp) := cell_of_heap hT rfl
        have hlt3 := heap_lt hT
        have HX2 := Lib.hid (hxq.trans hx2)
        clear hxq hx2 hw2e hT
        generalize wr.heap.size = b2 at *
        go_cut [3] (fun ok wc => ok = .bool (oka && inV s.f.fn 1 8) ∧ wc = w2)
        case first =>
          cases oka
          · go_wp2_with fail
            go_meet
            exact ⟨rfl, rfl⟩
          · go_wp2_with (go_at_call 86; refine (in_any _ _ _ _).mono ?_; rintro _ _ ⟨rfl, rfl⟩)
            go_meet
            exact ⟨by simp, rfl⟩
        case rest =>
          obtain ⟨rfl, rfl⟩ := hcut
          generalize hb0 : (oka && inV s.f.fn 1 8) = okb at *
          have Hokb := Lib.hid hb0
          clear hb0
          go_wp2_with fail
          go_loopw [3, 54] (fun okv i wq => ∃ m : Int, (m = 0 ∨ m = 1 ∨ m = 2 ∨ m = 3) ∧ i = .int .i64 m ∧ okv = .bool (okb && ([s.f.rf, s.f.mask, s.f.write].take m.toNat).all (fun n => inV n 0 255)) ∧ wq = wc) (fun _ i _ => (3 - intOf i).toNat)
          case atStart => exact ⟨0, by decide, rfl, by simp, rfl⟩
          case round =>
            obtain ⟨m, hm, rfl, rfl, rfl⟩ := hrel
            rcases hm with rfl | rfl | rfl | rfl
            · have hok := Lib.hid (show (okb && ([s.f.rf, s.f.mask, s.f.write].take (Int.toNat 1)).all (fun n => inV n 0 255)) = ((okb && ([s.f.rf, s.f.mask, s.f.write].take (Int.toNat 0)).all (fun n => inV n 0 255)) && inV s.f.rf 0 255) by simp [Bool.and_assoc])
              generalize (okb && ([s.f.rf, s.f.mask, s.f.write].take (Int.toNat 0)).all (fun n => inV n 0 255)) = okc at *
              cases okc
              · go_wp2_with fail
                go_roundw
                case rel => exact ⟨1, by decide, rfl, by rw [hok.out]; rfl, by first | rfl | trivial⟩
                case measure => simp [intOf]
              · go_wp2_with (go_at_call 86; refine (in_any _ _ _ _).mono ?_; rintro _ _ ⟨rfl, rfl⟩)
                go_roundw
                case rel => exact ⟨1, by decide, rfl, by rw [hok.out]; simp, by first | rfl | trivial⟩
                case measure => simp [intOf]
            · have hok := Lib.hid (show (okb && ([s.f.rf, s.f.mask, s.f.write].take (Int.toNat 2)).all (fun n => inV n 0 255)) = ((okb && ([s.f.rf, s.f.mask, s.f.write].take (Int.toNat 1)).all (fun n => inV n 0 255)) && inV s.f.mask 0 255) by simp [Bool.and_assoc])
              generalize (okb && ([s.f.rf, s.f.mask, s.f.write].take (Int.toNat 1)).all (fun n => inV n 0 255)) = okc at *
              cases okc
              · go_wp2_with fail
                go_roundw
                case rel => exact ⟨2, by decide, rfl, by rw [hok.out]; rfl, by first | rfl | trivial⟩
                case measure => simp [intOf]
              · go_wp2_with (go_at_call 86; refine (in_any _ _ _ _).mono ?_; rintro _ _ ⟨rfl, rfl⟩)
                go_roundw
                case rel => exact ⟨2, by decide, rfl, by rw [hok.out]; simp, by first | rfl | trivial⟩
                case measure => simp [intOf]
            · have hok := Lib.hid (show (okb && ([s.f.rf, s.f.mask, s.f.write].take (Int.toNat 3)).all (fun n => inV n 0 255)) = ((okb && ([s.f.rf, s.f.mask, s.f.write].take (Int.toNat 2)).all (fun n => inV n 0 255)) && inV s.f.write 0 255) by simp [Bool.and_assoc])
              generalize (okb && ([s.f.rf, s.f.mask, s.f.write].take (Int.toNat 2)).all (fun n => inV n 0 255)) = okc at *
              cases okc
              · go_wp2_with fail
                go_roundw
                case rel => exact ⟨3, by decide, rfl, by rw [hok.out]; rfl, by first | rfl | trivial⟩
                case measure => simp [intOf]
              · go_wp2_with (go_at_call 86; refine (in_any _ _ _ _).mono ?_; rintro _ _ ⟨rfl, rfl⟩)
                go_roundw
                case rel => exact ⟨3, by decide, rfl, by rw [hok.out]; simp, by first | rfl | trivial⟩
                case measure => simp [intOf]
            · have hok := Lib.hid (show (okb && ([s.f.rf, s.f.mask, s.f.write].take (Int.toNat 3)).all (fun n => inV n 0 255)) = (okb && [s.f.rf, s.f.mask, s.f.write].all (fun n => inV n 0 255)) from rfl)
              generalize (okb && ([s.f.rf, s.f.mask, s.f.write].take (Int.toNat 3)).all (fun n => inV n 0 255)) = okd at *
              have Hokd := Lib.hid hok.out
              clear hok
              go_wp2_with fail
              go_loopw [3, 70] (fun okv i wq => ∃ m : Int, (m = 0 ∨ m = 1 ∨ m = 2 ∨ m = 3) ∧ i = .int .i64 m ∧ okv = .bool (okd && ([s.f.fl, s.f.zf, s.f.zp].take m.toNat).all (fun n => inV n 1 8)) ∧ wq = wr) (fun _ i _ => (3 - intOf i).toNat)
              case atStart => exact ⟨0, by decide, rfl, by simp, rfl⟩
              case round =>
                obtain ⟨m, hm, rfl, rfl, rfl⟩ := hrel
                rcases hm with rfl | rfl | rfl | rfl
                · have hok := Lib.hid (show (okd && ([s.f.fl, s.f.zf, s.f.zp].take (Int.toNat 1)).all (fun n => inV n 1 8)) = ((okd && ([s.f.fl, s.f.zf, s.f.zp].take (Int.toNat 0)).all (fun n => inV n 1 8)) && inV s.f.fl 1 8) by simp [Bool.and_assoc])
                  generalize (okd && ([s.f.fl, s.f.zf, s.f.zp].take (Int.toNat 0)).all (fun n => inV n 1 8)) = okc at *
                  cases okc
                  · go_wp2_with fail
                    go_roundw
                    case rel => exact ⟨1, by decide, rfl, by rw [hok.out]; rfl, by first | rfl | trivial⟩
                    case measure => simp [intOf]
                  · go_wp2_with (go_at_call 86; refine (in_any _ _ _ _).mono ?_; rintro _ _ ⟨rfl, rfl⟩)
                    go_roundw
                    case rel => exact ⟨1, by decide, rfl, by rw [hok.out]; simp, by first | rfl | trivial⟩
                    case measure => simp [intOf]
                · have hok := Lib.hid (show (okd && ([s.f.fl, s.f.zf, s.f.zp].take (Int.toNat 2)).all (fun n => inV n 1 8)) = ((okd && ([s.f.fl, s.f.zf, s.f.zp].take (Int.toNat 1)).all (fun n => inV n 1 8)) && inV s.f.zf 1 8) by simp [Bool.and_assoc])
                  generalize (okd && ([s.f.fl, s.f.zf, s.f.zp].take (Int.toNat 1)).all (fun n => inV n 1 8)) = okc at *
                  cases okc
                  · go_wp2_with fail
                    go_roundw
                    case rel => exact ⟨2, by decide, rfl, by rw [hok.out]; rfl, by first | rfl | trivial⟩
                    case measure => simp [intOf]
                  · go_wp2_with (go_at_call 86; refine (in_any _ _ _ _).mono ?_; rintro _ _ ⟨rfl, rfl⟩)
                    go_roundw
                    case rel => exact ⟨2, by decide, rfl, by rw [hok.out]; simp, by first | rfl | trivial⟩
                    case measure => simp [intOf]
                · have hok := Lib.hid (show (okd && ([s.f.fl, s.f.zf, s.f.zp].take (Int.toNat 3)).all (fun n => inV n 1 8)) = ((okd && ([s.f.fl, s.f.zf, s.f.zp].take (Int.toNat 2)).all (fun n => inV n 1 8)) && inV s.f.zp 1 8) by simp [Bool.and_assoc])
                  generalize (okd && ([s.f.fl, s.f.zf, s.f.zp].take (Int.toNat 2)).all (fun n => inV n 1 8)) = okc at *
                  cases okc
                  · go_wp2_with fail
                    go_roundw
                    case rel => exact ⟨3, by decide, rfl, by rw [hok.out]; rfl, by first | rfl | trivial⟩
                    case measure => simp [intOf]
                  · go_wp2_with (go_at_call 86; refine (in_any _ _ _ _).mono ?_; rintro _ _ ⟨rfl, rfl⟩)
                    go_roundw
                    case rel => exact ⟨3, by decide, rfl, by rw [hok.out]; simp, by first | rfl | trivial⟩
                    case measure => simp [intOf]
                · have hok := Lib.hid (show (okd && ([s.f.fl, s.f.zf, s.f.zp].take (Int.toNat 3)).all (fun n => inV n 1 8)) = (okd && [s.f.fl, s.f.zf, s.f.zp].all (fun n => inV n 1 8)) from rfl)
                  generalize (okd && ([s.f.fl, s.f.zf, s.f.zp].take (Int.toNat 3)).all (fun n => inV n 1 8)) = oke at *
                  have Hoke := Lib.hid hok.out
                  clear hok
                  go_wp2_with fail
                  go_roundw
                  case rel =>
                    refine ⟨1, by decide, rfl, ?_, HX2.out⟩
                    rw [hok0.out, Hoke.out, Hokd.out, ← Hokb.out]
                    simp [stenOk, Bool.and_assoc]
                  case measure => simp [intOf]
      · have hok0 := Lib.hid (show (ok0 && ([s.f, s.b].take (Int.toNat 2)).all stenOk) = ((ok0 && ([s.f, s.b].take (Int.toNat 1)).all stenOk) && stenOk s.b) by simp [Bool.and_assoc])
        generalize (ok0 && ([s.f, s.b].take (Int.toNat 1)).all stenOk) = oka at *
        go_upto_region 5 with fail
        obtain ⟨w2, hw2e, hT, hx2⟩ : ∃ w2, wr.alloc (.cells #[.int .i64 s.b.fn, .int .i64 s.b.rf, .int .i64 s.b.mask, .int .i64 s.b.write, .int .i64 s.b.fl, .int .i64 s.b.zf, .int .i64 s.b.zp] 37) = w2 ∧ w2.heap[wr.heap.size]? = some (.cells #[.int .i64 s.b.fn, .int .i64 s.b.rf, .int .i64 s.b.mask, .int .i64 s.b.write, .int .i64 s.b.fl, .int .i64 s.b.zf, .int .i64 s.b.zp] 37 (0, 0)) ∧ Ext wr w2 := ⟨_, rfl, heap_alloc_new _ _, (Ext.refl _).alloc _⟩
        rw [hw2e]
        have g0 : w2.cell? ⟨wr.heap.size, 0, none⟩ = some (.int .i64 s.b.fn) := cell_of_heap hT rfl
        have g1 : w2.cell? ⟨wr.heap.size, 1, none⟩ = some (.int .i64 s.b.rf) := cell_of_heap hT rfl
        have g2 : w2.cell? ⟨wr.heap.size, 2, none⟩ = some (.int .i64 s.b.mask) := cell_of_heap hT rfl
        have g3 : w2.cell? ⟨wr.heap.size, 3, none⟩ = some (.int .i64 s.b.write) := cell_of_heap hT rfl
        have g4 : w2.cell? ⟨wr.heap.size, 4, none⟩ = some (.int .i64 s.b.fl) := cell_of_heap hT rfl
        have g5 : w2.cell? ⟨wr.heap.size, 5, none⟩ = some (.int .i64 s.b.zf) := cell_of_heap hT rfl
        have g6 : w2.cell? ⟨wr.heap.size, 6, none⟩ = some (.int .i64 s.b.zp) := cell_of_heap hT rfl
        have hlt3 := heap_lt hT
        have HX2 := Lib.hid (hxq.trans hx2)
        clear hxq hx2 hw2e hT
        generalize wr.heap.size = b2 at *
        go_cut [3] (fun ok wc => ok = .bool (oka && inV s.b.fn 1 8) ∧ wc = w2)
        case first =>
          cases oka
          · go_wp2_with fail
            go_meet
            exact ⟨rfl, rfl⟩
          · go_wp2_with (go_at_call 86; refine (in_any _ _ _ _).mono ?_; rintro _ _ ⟨rfl, rfl⟩)
            go_meet
            exact ⟨by simp, rfl⟩
        case rest =>
          obtain ⟨rfl, rfl⟩ := hcut
          generalize hb0 : (oka && inV s.b.fn 1 8) = okb at *
          have Hokb := Lib.hid hb0
          clear hb0
          go_wp2_with fail
          go_loopw [3, 54] (fun okv i wq => ∃ m : Int, (m = 0 ∨ m = 1 ∨ m = 2 ∨ m = 3) ∧ i = .int .i64 m ∧ okv = .bool (okb && ([s.b.rf, s.b.mask, s.b.write].take m.toNat).all (fun n => inV n 0 255)) ∧ wq = wc) (fun _ i _ => (3 - intOf i).toNat)
          case atStart => exact ⟨0, by decide, rfl, by simp, rfl⟩
          case round =>
            obtain ⟨m, hm, rfl, rfl, rfl⟩ := hrel
            rcases hm with rfl | rfl | rfl | rfl
            · have hok := Lib.hid (show (okb && ([s.b.rf, s.b.mask, s.b.write].take (Int.toNat 1)).all (fun n => inV n 0 255)) = ((okb && ([s.b.rf, s.b.mask, s.b.write].take (Int.toNat 0)).all (fun n => inV n 0 255)) && inV s.b.rf 0 255) by simp [Bool.and_assoc])
              generalize (okb && ([s.b.rf, s.b.mask, s.b.write].take (Int.toNat 0)).all (fun n => inV n 0 255)) = okc at *
              cases okc
              · go_wp2_with fail
                go_roundw
                case rel => exact ⟨1, by decide, rfl, by rw [hok.out]; rfl, by first | rfl | trivial⟩
                case measure => simp [intOf]
              · go_wp2_with (go_at_call 86; refine (in_any _ _ _ _).mono ?_; rintro _ _ ⟨rfl, rfl⟩)
                go_roundw
                case rel => exact ⟨1, by decide, rfl, by rw [hok.out]; simp, by first | rfl | trivial⟩
                case measure => simp [intOf]
            · have hok := Lib.hid (show (okb && ([s.b.rf, s.b.mask, s.b.write].take (Int.toNat 2)).all (fun n => inV n 0 255)) = ((okb && ([s.b.rf, s.b.mask, s.b.write].take (Int.toNat 1)).all (fun n => inV n 0 255)) && inV s.b.mask 0 255) by simp [Bool.and_assoc])
              generalize (okb && ([s.b.rf, s.b.mask, s.b.write].take (Int.toNat 1)).all (fun n => inV n 0 255)) = okc at *
              cases okc
              · go_wp2_with fail
                go_roundw
                case rel => exact ⟨2, by decide, rfl, by rw [hok.out]; rfl, by first | rfl | trivial⟩
                case measure => simp [intOf]
              · go_wp2_with (go_at_call 86; refine (in_any _ _ _ _).mono ?_; rintro _ _ ⟨rfl, rfl⟩)
                go_roundw
                case rel => exact ⟨2, by decide, rfl, by rw [hok.out]; simp, by first | rfl | trivial⟩
                case measure => simp [intOf]
            · have hok := Lib.hid (show (okb && ([s.b.rf, s.b.mask, s.b.write].take (Int.toNat 3)).all (fun n => inV n 0 255)) = ((okb && ([s.b.rf, s.b.mask, s.b.write].take (Int.toNat 2)).all (fun n => inV n 0 255)) && inV s.b.write 0 255) by simp [Bool.and_assoc])
              generalize (okb && ([s.b.rf, s.b.mask, s.b.write].take (Int.toNat 2)).all (fun n => inV n 0 255)) = okc at *
              cases okc
              · go_wp2_with fail
                go_roundw
                case rel => exact ⟨3, by decide, rfl, by rw [hok.out]; rfl, by first | rfl | trivial⟩
                case measure => simp [intOf]
              · go_wp2_with (go_at_call 86; refine (in_any _ _ _ _).mono ?_; rintro _ _ ⟨rfl, rfl⟩)
                go_roundw
                case rel => exact ⟨3, by decide, rfl, by rw [hok.out]; simp, by first | rfl | trivial⟩
                case measure => simp [intOf]
            · have hok := Lib.hid (show (okb && ([s.b.rf, s.b.mask, s.b.write].take (Int.toNat 3)).all (fun n => inV n 0 255)) = (okb && [s.b.rf, s.b.mask, s.b.write].all (fun n => inV n 0 255)) from rfl)
              generalize (okb && ([s.b.rf, s.b.mask, s.b.write].take (Int.toNat 3)).all (fun n => inV n 0 255)) = okd at *
              have Hokd := Lib.hid hok.out
              clear hok
              go_wp2_with fail
              go_loopw [3, 70] (fun okv i wq => ∃ m : Int, (m = 0 ∨ m = 1 ∨ m = 2 ∨ m = 3) ∧ i = .int .i64 m ∧ okv = .bool (okd && ([s.b.fl, s.b.zf, s.b.zp].take m.toNat).all (fun n => inV n 1 8)) ∧ wq = wr) (fun _ i _ => (3 - intOf i).toNat)
              case atStart => exact ⟨0, by decide, rfl, by simp, rfl⟩
              case round =>
                obtain ⟨m, hm, rfl, rfl, rfl⟩ := hrel
                rcases hm with rfl | rfl | rfl | rfl
                · have hok := Lib.hid (show (okd && ([s.b.fl, s.b.zf, s.b.zp].take (Int.toNat 1)).all (fun n => inV n 1 8)) = ((okd && ([s.b.fl, s.b.zf, s.b.zp].take (Int.toNat 0)).all (fun n => inV n 1 8)) && inV s.b.fl 1 8) by simp [Bool.and_assoc])
                  generalize (okd && ([s.b.fl, s.b.zf, s.b.zp].take (Int.toNat 0)).all (fun n => inV n 1 8)) = okc at *
                  cases okc
                  · go_wp2_with fail
                    go_roundw
                    case rel => exact ⟨1, by decide, rfl, by rw [hok.out]; rfl, by first | rfl | trivial⟩
                    case measure => simp [intOf]
                  · go_wp2_with (go_at_call 86; refine (in_any _ _ _ _).mono ?_; rintro _ _ ⟨rfl, rfl⟩)
                    go_roundw
                    case rel => exact ⟨1, by decide, rfl, by rw [hok.out]; simp, by first | rfl | trivial⟩
                    case measure => simp [intOf]
                · have hok := Lib.hid (show (okd && ([s.b.fl, s.b.zf, s.b.zp].take (Int.toNat 2)).all (fun n => inV n 1 8)) = ((okd && ([s.b.fl, s.b.zf, s.b.zp].take (Int.toNat 1)).all (fun n => inV n 1 8)) && inV s.b.zf 1 8) by simp [Bool.and_assoc])
                  generalize (okd && ([s.b.fl, s.b.zf, s.b.zp].take (Int.toNat 1)).all (fun n => inV n 1 8)) = okc at *
                  cases okc
                  · go_wp2_with fail
                    go_roundw
                    case rel => exact ⟨2, by decide, rfl, by rw [hok.out]; rfl, by first | rfl | trivial⟩
                    case measure => simp [intOf]
                  · go_wp2_with (go_at_call 86; refine (in_any _ _ _ _).mono ?_; rintro _ _ ⟨rfl, rfl⟩)
                    go_roundw
                    case rel => exact ⟨2, by decide, rfl, by rw [hok.out]; simp, by first | rfl | trivial⟩
                    case measure => simp [intOf]
                · have hok := Lib.hid (show (okd && ([s.b.fl, s.b.zf, s.b.zp].take (Int.toNat 3)).all (fun n => inV n 1 8)) = ((okd && ([s.b.fl, s.b.zf, s.b.zp].take (Int.toNat 2)).all (fun n => inV n 1 8)) && inV s.b.zp 1 8) by simp [Bool.and_assoc])
                  generalize (okd && ([s.b.fl, s.b.zf, s.b.zp].take (Int.toNat 2)).all (fun n => inV n 1 8)) = okc at *
                  cases okc
                  · go_wp2_with fail
                    go_roundw
                    case rel => exact ⟨3, by decide, rfl, by rw [hok.out]; rfl, by first | rfl | trivial⟩
                    case measure => simp [intOf]
                  · go_wp2_with (go_at_call 86; refine (in_any _ _ _ _).mono ?_; rintro _ _ ⟨rfl, rfl⟩)
                    go_roundw
                    case rel => exact ⟨3, by decide, rfl, by rw [hok.out]; simp, by first | rfl | trivial⟩
                    case measure => simp [intOf]
                · have hok := Lib.hid (show (okd && ([s.b.fl, s.b.zf, s.b.zp].take (Int.toNat 3)).all (fun n => inV n 1 8)) = (okd && [s.b.fl, s.b.zf, s.b.zp].all (fun n => inV n 1 8)) from rfl)
                  generalize (okd && ([s.b.fl, s.b.zf, s.b.zp].take (Int.toNat 3)).all (fun n => inV n 1 8)) = oke at *
                  have Hoke := Lib.hid hok.out
                  clear hok
                  go_wp2_with fail
                  go_roundw
                  case rel =>
                    refine ⟨2, by decide, rfl, ?_, HX2.out⟩
                    rw [hok0.out, Hoke.out, Hokd.out, ← Hokb.out]
                    simp [stenOk, Bool.and_assoc]
                  case measure => simp [intOf]
      · have hok := Lib.hid (show (ok0 && ([s.f, s.b].take (Int.toNat 2)).all stenOk) = (ok0 && [s.f, s.b].all stenOk) from rfl)
        generalize (ok0 && ([s.f, s.b].take (Int.toNat 2)).all stenOk) = okf at *
        have hsr := HST.out.ext hxq
        have r1 : (@Classical.epsilon _ neV (LdP 39 (.pointer (some ⟨w.heap.size, 24, none⟩)))).run Try.prog wr = .ok (.agg #[.int .i64 s.rgb.eqn, .int .i64 s.rgb.src, .int .i64 s.rgb.dst]) wr := hsr.loadR
        have r2 : (@Classical.epsilon _ neV (LdP 39 (.pointer (some ⟨w.heap.size, 27, none⟩)))).run Try.prog wr = .ok (.agg #[.int .i64 s.al.eqn, .int .i64 s.al.src, .int .i64 s.al.dst]) wr := hsr.loadA
        have HXR := Lib.hid (HX1.out.trans hxq)
        clear hxq hsr HX1 HST
        have hltr := hlt
        go_wp2_with fail
        go_loopw [3, 85] (fun okv i wq => ∃ m : Int, (m = 0 ∨ m = 1 ∨ m = 2) ∧ i = .int .i64 m ∧ okv = .bool (okf && ([s.rgb, s.al].take m.toNat).all blOk) ∧ Ext wr wq) (fun _ i _ => (2 - intOf i).toNat)
        case atStart => exact ⟨0, by decide, rfl, by simp, Ext.refl _⟩
        case round =>
          obtain ⟨m, hm, rfl, rfl, hxq⟩ := hrel
          rcases hm with rfl | rfl | rfl
          · have hok0 := Lib.hid (show (okf && ([s.rgb, s.al].take (Int.toNat 1)).all blOk) = ((okf && ([s.rgb, s.al].take (Int.toNat 0)).all blOk) && blOk s.rgb) by simp [Bool.and_assoc])
            generalize (okf && ([s.rgb, s.al].take (Int.toNat 0)).all blOk) = oka at *
            rename World => wq
            go_upto_region 20 with fail
            obtain ⟨w2, hw2e, hT, hx2⟩ : ∃ w2, wq.alloc (.cells #[.int .i64 s.rgb.eqn, .int .i64 s.rgb.src, .int .i64 s.rgb.dst] 39) = w2 ∧ w2.heap[wq.heap.size]? = some (.cells #[.int .i64 s.rgb.eqn, .int .i64 s.rgb.src, .int .i64 s.rgb.dst] 39 (0, 0)) ∧ Ext wq w2 := ⟨_, rfl, heap_alloc_new _ _, (Ext.refl _).alloc _⟩
            rw [hw2e]
            have g0 : w2.cell? ⟨wq.heap.size, 0, none⟩ = some (.int .i64 s.rgb.eqn) := cell_of_heap hT rfl
            have g1 : w2.cell? ⟨wq.heap.size, 1, none⟩ = some (.int .i64 s.rgb.src) := cell_of_heap hT rfl
            have g2 : w2.cell? ⟨wq.heap.size, 2, none⟩ = some (.int .i64 s.rgb.dst) := cell_of_heap hT rfl
            have hlt3 := heap_lt hT
            have HX2 := Lib.hid (hxq.trans hx2)
            clear hxq hx2 hw2e hT
            generalize wq.heap.size = b2 at *
            cases oka
            · go_wp2_with fail
              go_roundw
              case rel => exact ⟨1, by decide, rfl, by rw [hok0.out]; rfl, HX2.out⟩
              case measure => simp [intOf]
            · go_wp2_with (go_at_call 86; refine (in_any _ _ _ _).mono ?_; rintro _ _ ⟨rfl, rfl⟩)
              all_goals go_roundw
              all_goals first | exact ⟨1, by decide, rfl, by rw [hok0.out]; simp [*, blOk], HX2.out⟩ | simp [intOf]
          · have hok0 := Lib.hid (show (okf && ([s.rgb, s.al].take (Int.toNat 2)).all blOk) = ((okf && ([s.rgb, s.al].take (Int.toNat 1)).all blOk) && blOk s.al) by simp [Bool.and_assoc])
            generalize (okf && ([s.rgb, s.al].take (Int.toNat 1)).all blOk) = oka at *
            rename World => wq
            go_upto_region 20 with fail
            obtain ⟨w2, hw2e, hT, hx2⟩ : ∃ w2, wq.alloc (.cells #[.int .i64 s.al.eqn, .int .i64 s.al.src, .int .i64 s.al.dst] 39) = w2 ∧ w2.heap[wq.heap.size]? = some (.cells #[.int .i64 s.al.eqn, .int .i64 s.al.src, .int .i64 s.al.dst] 39 (0, 0)) ∧ Ext wq w2 := ⟨_, rfl, heap_alloc_new _ _, (Ext.refl _).alloc _⟩
            rw [hw2e]
            have g0 : w2.cell? ⟨wq.heap.size, 0, none⟩ = some (.int .i64 s.al.eqn) := cell_of_heap hT rfl
            have g1 : w2.cell? ⟨wq.heap.size, 1, none⟩ = some (.int .i64 s.al.src) := cell_of_heap hT rfl
            have g2 : w2.cell? ⟨wq.heap.size, 2, none⟩ = some (.int .i64 s.al.dst) := cell_of_heap hT rfl
            have hlt3 := heap_lt hT
            have HX2 := Lib.hid (hxq.trans hx2)
            clear hxq hx2 hw2e hT
            generalize wq.heap.size = b2 at *
            cases oka
            · go_wp2_with fail
              go_roundw
              case rel => exact ⟨2, by decide, rfl, by rw [hok0.out]; rfl, HX2.out⟩
              case measure => simp [intOf]
            · go_wp2_with (go_at_call 86; refine (in_any _ _ _ _).mono ?_; rintro _ _ ⟨rfl, rfl⟩)
              all_goals go_roundw
              all_goals first | exact ⟨2, by decide, rfl, by rw [hok0.out]; simp [*, blOk], HX2.out⟩ | simp [intOf]
          · have hok2 := Lib.hid (show (okf && ([s.rgb, s.al].take (Int.toNat 2)).all blOk) = stOk s by rw [HOK.out, ← hok.out]; rfl)
            generalize (okf && ([s.rgb, s.al].take (Int.toNat 2)).all blOk) = okz at *
            have HXF := Lib.hid (HXR.out.trans hxq)
            clear hxq
            cases okz
            · go_wp2_with fail
              go_ret
              exact ⟨ret_int (by rw [← HV.out, ← hok2.out]; rfl), HXF.out⟩
            · go_wp2_with fail
              go_ret
              exact ⟨ret_int (by rw [← HV.out, ← hok2.out]; rfl), HXF.out⟩
end Go.Proofs.Ytgdcdkajicgliaa
