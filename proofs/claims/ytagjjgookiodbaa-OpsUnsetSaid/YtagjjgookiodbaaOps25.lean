/- The walks of OpsNew and OpsDepth. Conditions: each theorem's own premises. -/
import Derived.Test.YtagjjgookiodbaaOps24
namespace Go.Proofs.Ytagjjgookiodbaa
open Go.RowKit
set_option linter.unusedVariables false
set_option linter.unusedSimpArgs false
attribute [local go_sem ↓] Ld_V4 St_V4 Ld_St St_St Ld_Fr Ld_Ce St_Ce Ld_Sten Ld_Bl
attribute [local go_sem ↓] eqC eqCz eqV eqVz eqS0
attribute [local go_sem] idxV0 idxV1 idxV2 idxV3

theorem ok0 : stOk st0 = true := by decide +kernel
theorem apply0 (f : Fr) (col : V4) (c : Ce) : applyV st0 f col c = ({ c with v := col.cl }, true) := rfl
theorem applyR0 {c : Ce} (h : ceOk c = true) (f : Fr) (col : V4) : applyR st0 f col c = ({ c with v := col.cl }, true, 0) := by rw [applyR_ok ok0 h, apply0]
set_option maxHeartbeats 4000000 in
set_option maxRecDepth 30000 in
theorem new_walk (p : Pa) (w : World) : Calls Try.prog 6 #[.agg p.C.toArray] w fun e w' => e = .returned (.bool true) ∧ Ext w w' := by
  go_enter Try.func6, Try.ntmps6
  go_upto_region 1 with fail
  obtain ⟨w2, hw2, hp, hx⟩ : ∃ w2, w.alloc (.cells p.C.toArray 40) = w2 ∧ PAt w2 w.heap.size p ∧ Ext w w2 := ⟨_, rfl, heap_alloc_new _ _, (Ext.refl _).alloc _⟩
  rw [hw2]
  clear hw2
  have HB : Hid (w.heap.size ≤ w.heap.size) := Lib.hid (Nat.le_refl _)
  generalize hb0 : w.heap.size = b0 at hp ⊢
  have HB0 := Lib.hid hb0
  clear hb0 HB
  go_upto_region 3 with (go_at_call 10; refine (wakes_any _).mono ?_; rintro _ w3 ⟨rfl, hx3⟩)
  have HP := Lib.hid (hp.ext hx3)
  have HX := Lib.hid (hx.trans hx3)
  clear hp hx hx3
  have c9 : w3.cell? ⟨b0, 9, none⟩ = some p.f.vars := cell_of_heap HP.out rfl
  have f9 : w3.frozen? ⟨b0, 9, none⟩ = false := free_of_heap HP.out
  have n0 := heap_lt HP.out
  have hp4 := HP.out.set9
  have hch : Chg [b0] w3 (w3.setCell ⟨b0, 9, none⟩ (.slice none 0 0)) := (Chg.refl _ _).setCell (by simp) _
  have HX4 := Lib.hid (HX.out.chgTrans hch (by rw [HB0.out]; simp))
  have HP4 := Lib.hid hp4
  clear hp4 hch HP HX
  go_upto_region 4 with fail
  clear c9 f9 n0
  generalize w3.setCell ⟨b0, 9, none⟩ (.slice none 0 0) = w4 at *
  go_upto_region 7 with (go_at_call 22; refine (new_any _).mono ?_; rintro _ w5 ⟨rfl, hx5⟩; obtain ⟨w6, hst, h6, hx6⟩ := newS w5 st0; have HX6 := Lib.hid (hx5.trans hx6); have HS6 := Lib.hid h6; clear hx5 h6 hx6)
  clear hst
  obtain ⟨w7, hw7, hx7, hA, hB⟩ : ∃ w7, (w6.alloc (.cells #[.int .i64 8, .int .i64 0, .int .i64 255, .int .i64 255, .int .i64 1, .int .i64 1, .int .i64 1] 25)).alloc (.cells #[.int .i64 1, .int .i64 2, .int .i64 1] 27) = w7 ∧ Ext w6 w7 ∧ w7.heap[w6.heap.size]? = some (.cells #[.int .i64 8, .int .i64 0, .int .i64 255, .int .i64 255, .int .i64 1, .int .i64 1, .int .i64 1] 25 (0, 0)) ∧ w7.heap[w6.heap.size + 1]? = some (.cells #[.int .i64 1, .int .i64 2, .int .i64 1] 27 (0, 0)) := ⟨_, rfl, ((Ext.refl _).alloc _).alloc _, (heap_two _ _ _).1, (heap_two _ _ _).2⟩
  rw [hw7]
  clear hw7
  have q0 := ld_ok _ (range_cells (cs := side0.C) (L := side0.C) hA (fun j v hv => by rw [Nat.zero_add]; exact hv)) Try.underlying25 rfl rfl
  have q1 := ld_ok _ (range_cells (cs := bl0.C) (L := bl0.C) hB (fun j v hv => by rw [Nat.zero_add]; exact hv)) Try.underlying27 rfl rfl
  have q0' : (@Classical.epsilon _ neV (LdP 25 (.pointer (some ⟨w6.heap.size, 0, none⟩)))).run Try.prog w7 = .ok (.agg #[.int .i64 8, .int .i64 0, .int .i64 255, .int .i64 255, .int .i64 1, .int .i64 1, .int .i64 1]) w7 := q0
  have q1' : (@Classical.epsilon _ neV (LdP 27 (.pointer (some ⟨w6.heap.size + 1, 0, none⟩)))).run Try.prog w7 = .ok (.agg #[.int .i64 1, .int .i64 2, .int .i64 1]) w7 := q1
  obtain ⟨w8, hst', h8, hx8⟩ := newS w7 st0
  have hst : (@Classical.epsilon _ neU (StP 33 (.pointer (some ⟨w7.heap.size, 0, none⟩)) (.agg #[.bool false, .int .i64 0, .int .i64 0, .int .i64 0, .int .i64 0, .bool false, .int .i64 8, .int .i64 0, .int .i64 255, .int .i64 255, .int .i64 1, .int .i64 1, .int .i64 1, .int .i64 8, .int .i64 0, .int .i64 255, .int .i64 255, .int .i64 1, .int .i64 1, .int .i64 1, .bool false, .bool true, .int .i64 2, .bool false, .int .i64 1, .int .i64 2, .int .i64 1, .int .i64 1, .int .i64 2, .int .i64 1, .int .i32 0, .int .i32 0, .int .i32 0, .int .i32 0, .bool true, .bool true, .bool true, .bool true]))).run Try.prog (w7.alloc (.cells #[.bool false, .int .i64 0, .int .i64 0, .int .i64 0, .int .i64 0, .bool false, .int .i64 0, .int .i64 0, .int .i64 0, .int .i64 0, .int .i64 0, .int .i64 0, .int .i64 0, .int .i64 0, .int .i64 0, .int .i64 0, .int .i64 0, .int .i64 0, .int .i64 0, .int .i64 0, .bool false, .bool false, .int .i64 0, .bool false, .int .i64 0, .int .i64 0, .int .i64 0, .int .i64 0, .int .i64 0, .int .i64 0, .int .i32 0, .int .i32 0, .int .i32 0, .int .i32 0, .bool false, .bool false, .bool false, .bool false] 33)) = .ok () w8 := hst'
  clear hst'
  have l1 := heap_lt hA
  have l2 := heap_lt hB
  have hx68 := hx7.trans hx8
  have HS8 := Lib.hid (HS6.out.ext hx68)
  have HW8 := Lib.hid h8
  have HP8 := Lib.hid ((HP4.out.ext HX6.out).ext hx68)
  have HX8 := Lib.hid ((HX4.out.trans HX6.out).trans hx68)
  have hbs := (HX4.out.trans HX6.out).size
  rw [HB0.out] at hbs
  have hb5 := heap_lt (HP4.out.ext HX6.out)
  clear q0 q1 hA hB hx7 hx8 hx68 h8 HS6 HP4 HX6 HX4
  go_upto_region 8 with fail
  clear q0' q1' hst l1 l2 hbs hb5
  generalize w5.heap.size = bs at *
  generalize w7.heap.size = bw at *
  have l1 := HS8.out.load
  have l2 := HW8.out.load
  have l3 := HP8.out.loadC
  have n1 := heap_lt HS8.out
  have n2 := heap_lt HW8.out
  have n3 := heap_lt HP8.out
  cases hco : ceOk p.ce
  · have HRC : ∀ w, Calls Try.prog 13 #[.agg p.nv.ce.C.toArray] w fun e w' => e = .returned (.bool false) ∧ Ext w w' := fun w => by have := rcell_any p.ce w; rw [hco] at this; exact this
    have H3 := Lib.hid HRC
    clear HRC hco
    go_upto_region 9 with (go_at_call 13; refine (H3.out _).mono ?_; rintro _ w9 ⟨rfl, hx9⟩; have HX9 := Lib.hid hx9)
    clear l1 l2 l3 n1 n2 n3
    have l1 := (HS8.out.ext HX9.out).load
    have l2 := (HW8.out.ext HX9.out).load
    have n1 := heap_lt (HS8.out.ext HX9.out)
    have n2 := heap_lt (HW8.out.ext HX9.out)
    go_wp2_with fail
    all_goals go_ret
    all_goals exact ⟨by simp, HX8.out.trans HX9.out⟩
  · have HRC : ∀ w, Calls Try.prog 13 #[.agg p.nv.ce.C.toArray] w fun e w' => e = .returned (.bool true) ∧ Ext w w' := fun w => by have := rcell_any p.ce w; rw [hco] at this; exact this
    have H3 := Lib.hid HRC
    have HAPP : ∀ w, Calls Try.prog 11 #[.agg st0.C.toArray, .agg p.nv.f.C.toArray, .agg p.nv.col.C.toArray, .agg p.nv.ce.C.toArray] w fun e w' => e = .returned (.tuple #[.agg (Ce.mk p.col.cl p.ce.dep p.ce.sten).C.toArray, .bool true, .int .i64 0]) ∧ Ext w w' := fun w => by
      have := apply_any st0 p.nv.f p.nv.col p.nv.ce w
      rw [applyR0 (c := p.nv.ce) hco] at this
      exact this
    have HAP := Lib.hid HAPP
    clear HRC hco HAPP
    go_upto_region 10 with (go_at_call 13; refine (H3.out _).mono ?_; rintro _ w9 ⟨rfl, hx9⟩; have HX9 := Lib.hid hx9)
    clear l1 l2 l3 n1 n2 n3
    have HS9 := Lib.hid (HS8.out.ext HX9.out)
    have HP9 := Lib.hid (HP8.out.ext HX9.out)
    have HXB := Lib.hid (HX8.out.trans HX9.out)
    clear HS8 HP8 HW8 HX8 HX9 hx9
    have l1 := HS9.out.load
    have l2 := HP9.out.loadF
    have l3 := HP9.out.loadV
    have l4 := HP9.out.loadC
    have n1 := heap_lt HS9.out
    have n2 := heap_lt HP9.out
    go_upto_region 11 with (go_at_call 11; refine (HAP.out _).mono ?_; rintro _ w10 ⟨rfl, hx10⟩; obtain ⟨w11, hst, h11, hx11⟩ := newC w10 (Ce.mk p.col.cl p.ce.dep p.ce.sten); have HC := Lib.hid h11; have HXC := Lib.hid (hx10.trans hx11); clear h11 hx10 hx11)
    clear hst l1 l2 l3 l4 n1 n2
    generalize w10.heap.size = bc at *
    have HP11 := Lib.hid (HP9.out.ext HXC.out)
    have HXD := Lib.hid (HXB.out.trans HXC.out)
    have l3 : (@Classical.epsilon _ neV (LdP 30 (.pointer (some ⟨b0, 10, none⟩)))).run Try.prog w11 = .ok (.agg #[.int .i32 p.col.a, .int .i32 p.col.b, .int .i32 p.col.c, .int .i32 p.col.d]) w11 := HP11.out.loadV
    have n2 := heap_lt HP11.out
    go_upto_region 12 with fail
    clear l3 n2 HP9 HXB HXC HS9
    go_loopw [51] (fun i wq => ∃ m : Nat, (m = 0 ∨ m = 1 ∨ m = 2 ∨ m = 3 ∨ m = 4) ∧ i = .int .i64 m ∧ w11 = wq) (fun i _ => (4 - intOf i).toNat)
    case atStart => exact ⟨0, by decide, rfl, rfl⟩
    case round =>
      obtain ⟨m, hm, rfl, rfl⟩ := hrel
      have n3 := heap_lt HC.out
      rcases hm with rfl | rfl | rfl | rfl | rfl
      · have cc : w11.cell? ⟨bc, 0, none⟩ = some (.int .i32 (clV p.col.a)) := cell_of_heap HC.out rfl
        generalize p.col.a = X at *
        go_upto_region 14 with fail
        go_cut [62] (fun v wc => v = .bool false ∧ w11 = wc)
        case first =>
          obtain ⟨K, hK⟩ : ∃ K, clV X = K := ⟨_, rfl⟩
          have HK := Lib.hid hK
          rw [hK] at cc
          clear hK
          go_wp2_with fail
          all_goals go_meet
          all_goals exact ⟨congrArg Value.bool (by have := HK.out; unfold clV at this; simp; omega), rfl⟩
        case rest =>
          obtain ⟨rfl, rfl⟩ := hcut
          go_wp2_with fail
          go_roundw
          case rel =>
            exact ⟨1, by decide, by first | rfl | trivial, by first | rfl | trivial⟩
          case measure => simp [intOf]
      · have cc : w11.cell? ⟨bc, 1, none⟩ = some (.int .i32 (clV p.col.b)) := cell_of_heap HC.out rfl
        generalize p.col.b = X at *
        go_upto_region 14 with fail
        go_cut [62] (fun v wc => v = .bool false ∧ w11 = wc)
        case first =>
          obtain ⟨K, hK⟩ : ∃ K, clV X = K := ⟨_, rfl⟩
          have HK := Lib.hid hK
          rw [hK] at cc
          clear hK
          go_wp2_with fail
          all_goals go_meet
          all_goals exact ⟨congrArg Value.bool (by have := HK.out; unfold clV at this; simp; omega), rfl⟩
        case rest =>
          obtain ⟨rfl, rfl⟩ := hcut
          go_wp2_with fail
          go_roundw
          case rel =>
            exact ⟨2, by decide, by first | rfl | trivial, by first | rfl | trivial⟩
          case measure => simp [intOf]
      · have cc : w11.cell? ⟨bc, 2, none⟩ = some (.int .i32 (clV p.col.c)) := cell_of_heap HC.out rfl
        generalize p.col.c = X at *
        go_upto_region 14 with fail
        go_cut [62] (fun v wc => v = .bool false ∧ w11 = wc)
        case first =>
          obtain ⟨K, hK⟩ : ∃ K, clV X = K := ⟨_, rfl⟩
          have HK := Lib.hid hK
          rw [hK] at cc
          clear hK
          go_wp2_with fail
          all_goals go_meet
          all_goals exact ⟨congrArg Value.bool (by have := HK.out; unfold clV at this; simp; omega), rfl⟩
        case rest =>
          obtain ⟨rfl, rfl⟩ := hcut
          go_wp2_with fail
          go_roundw
          case rel =>
            exact ⟨3, by decide, by first | rfl | trivial, by first | rfl | trivial⟩
          case measure => simp [intOf]
      · have cc : w11.cell? ⟨bc, 3, none⟩ = some (.int .i32 (clV p.col.d)) := cell_of_heap HC.out rfl
        generalize p.col.d = X at *
        go_upto_region 14 with fail
        go_cut [62] (fun v wc => v = .bool false ∧ w11 = wc)
        case first =>
          obtain ⟨K, hK⟩ : ∃ K, clV X = K := ⟨_, rfl⟩
          have HK := Lib.hid hK
          rw [hK] at cc
          clear hK
          go_wp2_with fail
          all_goals go_meet
          all_goals exact ⟨congrArg Value.bool (by have := HK.out; unfold clV at this; simp; omega), rfl⟩
        case rest =>
          obtain ⟨rfl, rfl⟩ := hcut
          go_wp2_with fail
          go_roundw
          case rel =>
            exact ⟨4, by decide, by first | rfl | trivial, by first | rfl | trivial⟩
          case measure => simp [intOf]
      · have c4 : w11.cell? ⟨bc, 4, none⟩ = some (.int .i32 p.ce.dep) := cell_of_heap HC.out rfl
        have c5 : w11.cell? ⟨bc, 5, none⟩ = some (.int .i64 p.ce.sten) := cell_of_heap HC.out rfl
        have d4 : w11.cell? ⟨b0, 18, none⟩ = some (.int .i32 p.ce.dep) := cell_of_heap HP11.out rfl
        have d5 : w11.cell? ⟨b0, 19, none⟩ = some (.int .i64 p.ce.sten) := cell_of_heap HP11.out rfl
        have n4 := heap_lt HP11.out
        go_wp2_with fail
        all_goals go_ret
        all_goals exact ⟨by simp, HXD.out⟩
theorem new_arg (W : World) (v0 : Value) (h0 : ArgIs Try.prog W 40 v0) : Calls Try.prog 6 #[v0] W fun e w' => e = .returned (.bool true) ∧ Ext W w' := by
  obtain ⟨p, rfl⟩ := paintIn h0
  exact new_walk p W
end Go.Proofs.Ytagjjgookiodbaa
