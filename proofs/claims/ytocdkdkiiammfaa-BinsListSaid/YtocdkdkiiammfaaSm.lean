/- The document's Same, of strokes that are one. Conditions: each theorem's own premises. -/
import Derived.Test.YtocdkdkiiammfaaBinA2
import Derived.Deep.RegionHeld3
import Derived.Test.YtocdkdkiiammfaaQx
namespace Go.Proofs.Ytocdkdkiiammfaa
open Go.RowKit
set_option linter.unusedVariables false
set_option maxRecDepth 100000
set_option linter.unusedSimpArgs false

theorem Ld_FrF (v : Value) : Instr.loadAt 44 v = @Classical.epsilon _ neF (LdF 44 v) := LdF_eq _ _
theorem Ld_VcF (v : Value) : Instr.loadAt 41 v = @Classical.epsilon _ neF (LdF 41 v) := LdF_eq _ _
/-- A fragment's cells. -/
def frC (q : Sk × Value) : List Value := [.int .i64 q.1.x, .int .i64 q.1.y, .int .i32 q.1.z, .int .i32 q.1.iw, .bool q.1.front, .int .i32 q.1.pt.a, .int .i32 q.1.pt.b, .int .i32 q.1.pt.c, .int .i32 q.1.pt.d, q.2]
theorem sk_frF {w : World} {b : Nat} {q : Sk × Value} (h : w.heap[b]? = some (.cells (skC q).toArray 46 (0, 0))) : (@Classical.epsilon _ neF (LdF 44 (.pointer (some ⟨b, 0, none⟩)))).run Try.prog w = .ok (.agg (frC q).toArray) w :=
  ldF_ok (cs := frC q) _ (rangeF (L := skC q) h (fun j v hv => by
    have hj : j < 10 := (List.getElem?_eq_some_iff.1 hv).1
    rw [Nat.zero_add]
    rw [← hv]
    show (skC q)[j]? = (frC q)[j]?
    match j, hj with
    | 0, _ | 1, _ | 2, _ | 3, _ | 4, _ | 5, _ | 6, _ | 7, _ | 8, _ | 9, _ => rfl)) Try.underlying44 rfl (by kernel_rfl)
/-- Variable k of a slice of variables. -/
theorem v4s_at (l : List V4) (k : Nat) (u : V4) (h : l[k]? = some u) (j : Nat) (hj : j < 4) : (v4s l)[k * 4 + j]? = u.C[j]? := by
  unfold v4s
  rw [List.flatMap_def, flat_at 4 _ k j (fun cs hcs => by obtain ⟨v, _, rfl⟩ := List.mem_map.1 hcs; rfl) hj, List.getElem?_map, h]
  rfl
theorem vec_get {w : World} {b off n cap : Nat} {l : List V4} (h : SlC w (.slice (some ⟨b, off, none⟩) n cap) 4 n (v4s l)) {k : Nat} {u : V4} (hk : l[k]? = some u) (hn : k < n) :
    (@Classical.epsilon _ neF (LdF 41 (.pointer (some ⟨b, off + k * 4, none⟩)))).run Try.prog w = .ok (.agg u.C.toArray) w := by
  obtain ⟨b', off', he, hb, hcell⟩ := h.pos (by omega)
  simp only [Option.some.injEq, Addr.mk.injEq, and_true] at he
  obtain ⟨rfl, rfl⟩ := he
  refine ldF_ok (cs := u.C) _ (fun j v hv => ?_) Try.underlying41 rfl (by kernel_rfl)
  have hj : j < 4 := (List.getElem?_eq_some_iff.1 hv).1
  have := hcell (k * 4 + j) v ((v4s_at l k u hk j hj).trans hv)
  rwa [← Nat.add_assoc] at this
theorem eq_vecT (n : Nat) (a0 a1 a2 a3 b0 b1 b2 b3 : Int) (w : World) : (Op.equalIn (n + 2) 41 (.agg #[.int .i32 a0, .int .i32 a1, .int .i32 a2, .int .i32 a3]) (.agg #[.int .i32 b0, .int .i32 b1, .int .i32 b2, .int .i32 b3])).run Try.prog w = .ok (a0 == b0 && (a1 == b1 && (a2 == b2 && a3 == b3))) w := by
  have u3 := Try.underlying39
  have a3' := Try.isAgg39
  have z3 := Try.sizeOf39
  rw [show n + 2 = (n + 1) + 1 from rfl, Op.equalIn]
  simp only [Sem.run_bind, run_underlying Try.underlying41, Result.andThen_ok]
  simp only [Std.Legacy.Range.forIn_eq_forIn_range', Std.Legacy.Range.size, Nat.sub_zero, Nat.add_sub_cancel, Nat.div_one, List.range'_succ, List.range'_zero, List.forIn_cons, List.forIn_nil]
  go_simp
  by_cases h1 : a0 = b0 <;> by_cases h2 : a1 = b1 <;> by_cases h3 : a2 = b2 <;> by_cases h4 : a3 = b3 <;> simp [h1, h2, h3, h4]
theorem eqVT (u : V4) (w : World) : (Op.equalIn 10000 41 (.agg u.C.toArray) (.agg u.C.toArray)).run Try.prog w = .ok true w := by
  refine (eq_vecT 9998 u.a u.b u.c u.d u.a u.b u.c u.d w).trans ?_
  congr 1
  simp
/-- A fragment in a block of its own. -/
def FrB (w : World) (b : Nat) (q : Sk × Value) : Prop := w.heap[b]? = some (.cells (frC q).toArray 44 (0, 0))
theorem FrB.ptF {w : World} {b : Nat} {q : Sk × Value} (h : FrB w b q) : (@Classical.epsilon _ neF (LdF 41 (.pointer (some ⟨b, 5, none⟩)))).run Try.prog w = .ok (.agg q.1.pt.C.toArray) w :=
  ldF_ok (cs := q.1.pt.C) _ (rangeF (L := frC q) h (fun j v hv => by
    have hj : j < 4 := (List.getElem?_eq_some_iff.1 hv).1
    rw [← hv]
    match j, hj with
    | 0, _ | 1, _ | 2, _ | 3, _ => rfl)) Try.underlying41 rfl (by kernel_rfl)
theorem sk_colF {w : World} {b : Nat} {q : Sk × Value} (h : w.heap[b]? = some (.cells (skC q).toArray 46 (0, 0))) : (@Classical.epsilon _ neF (LdF 41 (.pointer (some ⟨b, 10, none⟩)))).run Try.prog w = .ok (.agg q.1.col.C.toArray) w :=
  ldF_ok (cs := q.1.col.C) _ (rangeF (L := skC q) h (fun j v hv => by
    have hj : j < 4 := (List.getElem?_eq_some_iff.1 hv).1
    rw [← hv]
    match j, hj with
    | 0, _ | 1, _ | 2, _ | 3, _ => rfl)) Try.underlying41 rfl (by kernel_rfl)
section
attribute [local go_sem ↓] Ld_FrF Ld_VcF
attribute [local go_sem] eqVT
set_option maxHeartbeats 4000000 in
theorem same26_any (q : Sk) (v1 v2 : Value) (w : World) (h1 : SlC w v1 4 q.vars.length (v4s q.vars)) (h2 : SlC w v2 4 q.vars.length (v4s q.vars)) (hb : q.vars.length ≤ 1000) :
    Calls Try.prog 24 #[.agg (skC (q, v1)).toArray, .agg (skC (q, v2)).toArray] w fun e w' => e = .returned (.bool true) ∧ Ext w w' := by
  have H1 := Lib.hid h1
  have H2 := Lib.hid h2
  obtain ⟨_, a1, c1, rfl, hn1, hc1, _, _⟩ := h1
  obtain ⟨_, a2, c2, rfl, hn2, hc2, _, _⟩ := h2
  go_enter Try.func24, Try.ntmps24
  go_upto_region 1 with fail
  obtain ⟨w2, hw2, hA, hB, hx2⟩ : ∃ w2, (w.alloc (.cells (skC (q, .slice a1 q.vars.length c1)).toArray 46)).alloc (.cells (skC (q, .slice a2 q.vars.length c2)).toArray 46) = w2 ∧ w2.heap[w.heap.size]? = some (.cells (skC (q, .slice a1 q.vars.length c1)).toArray 46 (0, 0)) ∧ w2.heap[w.heap.size + 1]? = some (.cells (skC (q, .slice a2 q.vars.length c2)).toArray 46 (0, 0)) ∧ Ext w w2 := ⟨_, rfl, (heap_pair _ _ _).1, (heap_pair _ _ _).2, ((Ext.refl _).alloc _).alloc _⟩
  rw [hw2]
  obtain ⟨b, hb0⟩ : ∃ b, w.heap.size = b := ⟨_, rfl⟩
  rw [hb0] at hA hB
  rw [hb0]
  have HX2 := Lib.hid hx2
  have HA := Lib.hid hA
  have HB := Lib.hid hB
  clear hw2 hA hB hx2 hb0
  have HK : Hid (∀ w', Ext w2 w' → (@Classical.epsilon _ neF (LdF 44 (.pointer (some ⟨b, 0, none⟩)))).run Try.prog w' = .ok (.agg #[.int .i64 q.x, .int .i64 q.y, .int .i32 q.z, .int .i32 q.iw, .bool q.front, .int .i32 q.pt.a, .int .i32 q.pt.b, .int .i32 q.pt.c, .int .i32 q.pt.d, .slice a1 q.vars.length c1]) w' ∧ (@Classical.epsilon _ neF (LdF 44 (.pointer (some ⟨b + 1, 0, none⟩)))).run Try.prog w' = .ok (.agg #[.int .i64 q.x, .int .i64 q.y, .int .i32 q.z, .int .i32 q.iw, .bool q.front, .int .i32 q.pt.a, .int .i32 q.pt.b, .int .i32 q.pt.c, .int .i32 q.pt.d, .slice a2 q.vars.length c2]) w') := Lib.hid fun w' x' => ⟨sk_frF (x'.heap HA.out), sk_frF (x'.heap HB.out)⟩
  have X0 := Lib.hid (show Ext w2 w2.drew from (Ext.refl _).drew)
  go_cut [5, 6] (fun x y wc => ∃ m1 m2, x = .pointer (some ⟨m1, 0, none⟩) ∧ y = .pointer (some ⟨m2, 0, none⟩) ∧ Hid (FrB wc m1 (q, .slice a1 q.vars.length c1) ∧ FrB wc m2 (q, .slice a2 q.vars.length c2) ∧ Ext w2 wc))
  case first =>
    go_region_held3 (fun w' => (@Classical.epsilon _ neF (LdF 44 (.pointer (some ⟨b, 0, none⟩)))).run Try.prog w' = .ok (.agg #[.int .i64 q.x, .int .i64 q.y, .int .i32 q.z, .int .i32 q.iw, .bool q.front, .int .i32 q.pt.a, .int .i32 q.pt.b, .int .i32 q.pt.c, .int .i32 q.pt.d, .slice a1 q.vars.length c1]) w' ∧ (@Classical.epsilon _ neF (LdF 44 (.pointer (some ⟨b + 1, 0, none⟩)))).run Try.prog w' = .ok (.agg #[.int .i64 q.x, .int .i64 q.y, .int .i32 q.z, .int .i32 q.iw, .bool q.front, .int .i32 q.pt.a, .int .i32 q.pt.b, .int .i32 q.pt.c, .int .i32 q.pt.d, .slice a2 q.vars.length c2]) w') (first | exact HK.out _ X0.out | exact HK.out _ (X0.out.alloc _) | exact HK.out _ ((X0.out.alloc _).alloc _)) (fail)
    all_goals
      go_wp2_with fail
      go_meet
      first
        | exact ⟨w2.heap.size, w2.heap.size + 1, rfl, rfl, Lib.hid ⟨(heap_pair _ _ _).1, (heap_pair _ _ _).2, (((Ext.refl _).alloc _).alloc _).drew⟩⟩
        | exact ⟨w2.heap.size + 1, w2.heap.size, rfl, rfl, Lib.hid ⟨(heap_pair _ _ _).2, (heap_pair _ _ _).1, (((Ext.refl _).alloc _).alloc _).drew⟩⟩
  case rest =>
    obtain ⟨m1, m2, rfl, rfl, HM⟩ := hcut
    have c0 : wc.cell? ⟨m1, 0, none⟩ = some (.int .i64 q.x) := cell_of_heap HM.out.1 rfl
    have c1' : wc.cell? ⟨m1, 1, none⟩ = some (.int .i64 q.y) := cell_of_heap HM.out.1 rfl
    have c2' : wc.cell? ⟨m1, 2, none⟩ = some (.int .i32 q.z) := cell_of_heap HM.out.1 rfl
    have c3 : wc.cell? ⟨m1, 3, none⟩ = some (.int .i32 q.iw) := cell_of_heap HM.out.1 rfl
    have c4 : wc.cell? ⟨m1, 4, none⟩ = some (.bool q.front) := cell_of_heap HM.out.1 rfl
    have c9 : wc.cell? ⟨m1, 9, none⟩ = some (.slice a1 q.vars.length c1) := cell_of_heap HM.out.1 rfl
    have d0 : wc.cell? ⟨m2, 0, none⟩ = some (.int .i64 q.x) := cell_of_heap HM.out.2.1 rfl
    have d1 : wc.cell? ⟨m2, 1, none⟩ = some (.int .i64 q.y) := cell_of_heap HM.out.2.1 rfl
    have d2 : wc.cell? ⟨m2, 2, none⟩ = some (.int .i32 q.z) := cell_of_heap HM.out.2.1 rfl
    have d3 : wc.cell? ⟨m2, 3, none⟩ = some (.int .i32 q.iw) := cell_of_heap HM.out.2.1 rfl
    have d4 : wc.cell? ⟨m2, 4, none⟩ = some (.bool q.front) := cell_of_heap HM.out.2.1 rfl
    have d9 : wc.cell? ⟨m2, 9, none⟩ = some (.slice a2 q.vars.length c2) := cell_of_heap HM.out.2.1 rfl
    have p1 := HM.out.1.ptF
    have p2 := HM.out.2.1.ptF
    have k1 := sk_colF (HM.out.2.2.heap HA.out)
    have k2 := sk_colF (HM.out.2.2.heap HB.out)
    have n1 := heap_lt HM.out.1
    have n2 := heap_lt HM.out.2.1
    have n3 := heap_lt (HM.out.2.2.heap HB.out)
    have n4 := heap_lt (HM.out.2.2.heap HA.out)
    have hbi : (q.vars.length : Int) ≤ 1000 := by omega
    go_upto_region 4 with fail
    clear c0 c1' c2' c3 c4 d0 d1 d2 d3 d4 p1 p2 k1 k2 n3 n4 HA HB HK X0
    go_wp2_with fail
    go_loopw [71] (fun i wr => ∃ k : Nat, k ≤ q.vars.length ∧ i = .int .i64 k ∧ Hid (Ext wc wr)) (fun i _ => q.vars.length - (intOf i).toNat)
    case atStart => exact ⟨0, Nat.zero_le _, rfl, Lib.hid (Ext.refl _)⟩
    case round =>
      rename World => wr
      obtain ⟨k, hk, rfl, HX⟩ := hrel
      by_cases hlt : k < q.vars.length
      · have hki : (k : Int) < (q.vars.length : Int) := by omega
        obtain ⟨u, hu⟩ : ∃ u, q.vars[k]? = some u := ⟨_, List.getElem?_eq_getElem hlt⟩
        have X2 : Hid (∀ x : XW wr, Ext w x.W) := Lib.hid fun x => ((HX2.out.trans HM.out.2.2).trans HX.out).trans x.h
        obtain ⟨b1, o1, rfl, _, _⟩ := H1.out.pos (by omega)
        obtain ⟨b2, o2, rfl, _, _⟩ := H2.out.pos (by omega)
        have y1 : ∀ x : XW wr, x.W.cell? ⟨m1, 9, none⟩ = some (.slice (some ⟨b1, o1, none⟩) q.vars.length c1) := fun x => cell_of_heap ((HX.out.trans x.h).heap HM.out.1) rfl
        have y2 : ∀ x : XW wr, x.W.cell? ⟨m2, 9, none⟩ = some (.slice (some ⟨b2, o2, none⟩) q.vars.length c2) := fun x => cell_of_heap ((HX.out.trans x.h).heap HM.out.2.1) rfl
        have y3 : ∀ x : XW wr, (@Classical.epsilon _ neF (LdF 41 (.pointer (some ⟨b1, o1 + k * 4, none⟩)))).run Try.prog x.W = .ok (.agg u.C.toArray) x.W := fun x => vec_get (H1.out.ext (X2.out x)) hu hlt
        have y4 : ∀ x : XW wr, (@Classical.epsilon _ neF (LdF 41 (.pointer (some ⟨b2, o2 + k * 4, none⟩)))).run Try.prog x.W = .ok (.agg u.C.toArray) x.W := fun x => vec_get (H2.out.ext (X2.out x)) hu hlt
        clear hu
        go_upto_region 7 with fail
        refine wp_region_ext (by kernel_rfl) (by kernel_rfl) ?_
        repeat (go_big_quiet_step (fail))
        refine wpQuiet_nil ?_
        intro _ hw'
        obtain ⟨xw, hw''⟩ := hw'
        subst hw''
        have HXW := Lib.hid (HX.out.trans xw.h)
        generalize xw.W = w8 at *
        go_wp2_with fail
        go_roundw
        case rel => exact ⟨k + 1, by omega, by go_num, HXW⟩
        case measure => simp [intOf]; omega
      · obtain rfl : k = q.vars.length := by omega
        go_wp2_with fail
        go_ret
        exact ⟨rfl, (HX2.out.trans HM.out.2.2).trans HX.out⟩
end
end Go.Proofs.Ytocdkdkiiammfaa
