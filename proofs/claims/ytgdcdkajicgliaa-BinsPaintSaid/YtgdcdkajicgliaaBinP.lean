/- Contract of bins' Paint. Conditions: each theorem's own premises. -/
import Derived.Test.YtgdcdkajicgliaaBinA4
import Derived.Test.YtgdcdkajicgliaaBinN
import Derived.Test.YtgdcdkajicgliaaFraT
import Derived.Test.YtgdcdkajicgliaaRnd
namespace Go.Proofs.Ytgdcdkajicgliaa
open Go.RowKit
set_option linter.unusedVariables false
set_option maxRecDepth 100000
set_option linter.unusedSimpArgs false

/-- A stroke's fragment, but for its list of colours. -/
def skF (q : Sk) : Fr := ⟨q.x, q.y, q.z, q.iw, q.front, q.pt, .slice none 0 0⟩
/-- A stroke is painted. -/
def stepK (s : St) (a : Pl × Nat) (q : Sk) : Pl × Nat := if inP a.1.W a.1.H q.x q.y then (ptP s (skF q) q.col a.1, a.2 + if (ptV s (skF q) q.col a.1).2 then 1 else 0) else a
def tileK (s : St) (T : List (List Sk)) (a : Pl × Nat) (t : Int) : Pl × Nat := (T.getD t.toNat []).foldl (stepK s) a
def paintK (s : St) (T : List (List Sk)) (zs : List Int) (a : Pl × Nat) : Pl × Nat := zs.foldl (tileK s T) a
theorem inP_dim (W H : Nat) (x y : Int) : inP W H x y = inP W H x y := rfl
theorem stepK_dim (s : St) (a : Pl × Nat) (q : Sk) : (stepK s a q).1.W = a.1.W ∧ (stepK s a q).1.H = a.1.H := by
  unfold stepK
  split
  · exact ⟨rfl, rfl⟩
  · exact ⟨rfl, rfl⟩
theorem stepK_le (s : St) (a : Pl × Nat) (q : Sk) : (stepK s a q).2 ≤ a.2 + 1 := by
  unfold stepK
  split
  · show a.2 + _ ≤ _
    split <;> omega
  · omega
theorem foldK_dim (s : St) : ∀ (L : List Sk) (a : Pl × Nat), (L.foldl (stepK s) a).1.W = a.1.W ∧ (L.foldl (stepK s) a).1.H = a.1.H
  | [], a => ⟨rfl, rfl⟩
  | q :: L, a => by
    obtain ⟨h1, h2⟩ := foldK_dim s L (stepK s a q)
    obtain ⟨h3, h4⟩ := stepK_dim s a q
    exact ⟨h1.trans h3, h2.trans h4⟩
theorem paintK_dim (s : St) (T : List (List Sk)) : ∀ (zs : List Int) (a : Pl × Nat), (paintK s T zs a).1.W = a.1.W ∧ (paintK s T zs a).1.H = a.1.H
  | [], a => ⟨rfl, rfl⟩
  | z :: zs, a => by
    obtain ⟨h1, h2⟩ := paintK_dim s T zs (tileK s T a z)
    obtain ⟨h3, h4⟩ := foldK_dim s (T.getD z.toNat []) a
    exact ⟨h1.trans h3, h2.trans h4⟩
/-- What holds while tiles are painted. -/
structure PInv (B : Pb) (w6 W : World) (bn : Nat) (a : Pl × Nat) (lim : Nat) : Prop where
  p : PlAt W B a.1
  n : W.heap[bn]? = some (.cells #[.int .i64 a.2] 3 (0, 0))
  c : Chg [bn, B.c, B.d, B.m] w6 W
  l : a.2 ≤ lim
theorem PInv.ext {B : Pb} {w6 W W' : World} {bn lim : Nat} {a : Pl × Nat} (h : PInv B w6 W bn a lim) (x : Ext W W') : PInv B w6 W' bn a lim := ⟨h.p.ext x, x.heap h.n, h.c.ext2 x, h.l⟩
theorem PInv.turn {B : Pb} {w6 W W' : World} {bn lim m : Nat} {a : Pl × Nat} (h : PInv B w6 W bn a lim) (t : Turn m W W') (hm : w6.heap.size ≤ m) : PInv B w6 W' bn a lim := ⟨h.p.turn t, t.cells h.n, h.c.turn t hm, h.l⟩
theorem skB_frag {w : World} {b : Nat} {q : Sk} {vs : Value} (h : w.heap[b]? = some (.cells (skC (q, vs)).toArray 99 (0, 0))) : (@Classical.epsilon _ neV (LdP 55 (.pointer (some ⟨b, 0, none⟩)))).run Try.prog w = .ok (.agg (⟨q.x, q.y, q.z, q.iw, q.front, q.pt, vs⟩ : Fr).C.toArray) w :=
  ld_ok _ (range_cells h (fun j v hv => by
    have hj : j < 10 := (List.getElem?_eq_some_iff.1 hv).1
    have : j = 0 ∨ j = 1 ∨ j = 2 ∨ j = 3 ∨ j = 4 ∨ j = 5 ∨ j = 6 ∨ j = 7 ∨ j = 8 ∨ j = 9 := by omega
    rcases this with rfl | rfl | rfl | rfl | rfl | rfl | rfl | rfl | rfl | rfl <;> exact hv)) Try.underlying55 rfl (by kernel_rfl)
theorem skB_col {w : World} {b : Nat} {q : Sk} {vs : Value} (h : w.heap[b]? = some (.cells (skC (q, vs)).toArray 99 (0, 0))) : (@Classical.epsilon _ neV (LdP 26 (.pointer (some ⟨b, 10, none⟩)))).run Try.prog w = .ok (.agg q.col.C.toArray) w :=
  ld_ok _ (range_cells h (fun j v hv => by
    have hj : j < 4 := (List.getElem?_eq_some_iff.1 hv).1
    have : j = 0 ∨ j = 1 ∨ j = 2 ∨ j = 3 := by omega
    rcases this with rfl | rfl | rfl | rfl <;> exact hv)) Try.underlying26 rfl (by kernel_rfl)
theorem onceB_in {zs : List Int} {n : Nat} (h : onceB zs n = true) : ∀ z ∈ zs, 0 ≤ z ∧ z < n := by
  unfold onceB at h
  rw [Bool.and_eq_true, decide_eq_true_eq] at h
  exact h.1.1
section
attribute [local go_sem ↓] Ld_V4 St_V4 Ld_Ce St_Ce Ld_St Ld_Sk St_Sk Ld_Fr2
attribute [local go_sem] Oper.semAt_some
set_option maxHeartbeats 2000000 in
theorem bpaint_arg (base p g : Nat) (T : List Tl) (n : Int) (B : Pb) (P : Pl) (s : St) (v : Value) (zs : List Int) (w : World) (hb : BinAt base w p g P.W P.H T n) (hp : PlAt w B P) (hv : Ints .i64 w v zs) (ho : onceB zs T.length = false) (hT : T.length ≤ 1000) (hz : zs.length ≤ 1000000) :
    Calls Try.prog 47 #[.pointer (some ⟨p, 0, none⟩), .pointer (some ⟨B.p, 0, none⟩), .agg s.C.toArray, v] w fun e w' => e = .returned (.tuple #[.int .i64 0, .int .i64 2]) ∧ Ext w w' := by
  have HB := Lib.hid hb
  have HP := Lib.hid hp
  have HO := Lib.hid (fun w' x' => once_any v zs T.length w' (hv.ext x') hT hz)
  rw [ho] at HO
  clear hb hp hv ho hT hz
  go_enter Try.func47, Try.ntmps47
  go_upto_region 1 with fail
  obtain ⟨w2, e2, h1, h2, hx⟩ := heap2x w (.cells #[.pointer (some ⟨B.p, 0, none⟩)] 29) (.cells s.C.toArray 42)
  rw [e2]
  have c1 : w2.cell? ⟨w.heap.size, 0, none⟩ = some (.pointer (some ⟨B.p, 0, none⟩)) := cell_of_heap h1 rfl
  have n1 := heap_lt h1
  have HX := Lib.hid hx
  clear e2 h1 h2 hx
  go_upto_region 4 with (go_at_call 22; refine (sides_any B P _ (HP.out.ext HX.out)).mono ?_; rintro _ w3 ⟨rfl, hx3⟩)
  have HX3 := Lib.hid (HX.out.trans hx3)
  have HB3 := Lib.hid (HB.out.ext HX3.out)
  have d0 : w3.cell? ⟨p, 0, none⟩ = some (.int .i64 P.W) := cell_of_heap HB3.out.b rfl
  have d1 : w3.cell? ⟨p, 1, none⟩ = some (.int .i64 P.H) := cell_of_heap HB3.out.b rfl
  have d2 : w3.cell? ⟨p, 2, none⟩ = some (.slice (some ⟨g, 0, none⟩) T.length T.length) := cell_of_heap HB3.out.b rfl
  have n3 := heap_lt HB3.out.b
  clear hx3 c1 n1
  go_wp2_with (go_at_call 80; refine (HO.out _ HX3.out).mono ?_; rintro _ w4 ⟨rfl, hx4⟩)
  go_ret2
  exact ⟨rfl, HX3.out.trans hx4⟩
set_option maxHeartbeats 2000000 in
theorem bpaint_state (base p g : Nat) (T : List Tl) (n : Int) (B : Pb) (P : Pl) (s : St) (v : Value) (zs : List Int) (w : World) (hb : BinAt base w p g P.W P.H T n) (hp : PlAt w B P) (hv : Ints .i64 w v zs) (ho : onceB zs T.length = true) (hs : stOk s = false) (hT : T.length ≤ 1000) (hz : zs.length ≤ 1000000) :
    Calls Try.prog 47 #[.pointer (some ⟨p, 0, none⟩), .pointer (some ⟨B.p, 0, none⟩), .agg s.C.toArray, v] w fun e w' => e = .returned (.tuple #[.int .i64 0, .int .i64 340]) ∧ Ext w w' := by
  have HB := Lib.hid hb
  have HP := Lib.hid hp
  have HO := Lib.hid (fun w' x' => once_any v zs T.length w' (hv.ext x') hT hz)
  rw [ho] at HO
  have HCK := Lib.hid (check_any s)
  rw [hs] at HCK
  clear hb hp hv ho hT hz hs
  go_enter Try.func47, Try.ntmps47
  go_upto_region 1 with fail
  obtain ⟨w2, e2, h1, h2, hx⟩ := heap2x w (.cells #[.pointer (some ⟨B.p, 0, none⟩)] 29) (.cells s.C.toArray 42)
  rw [e2]
  obtain ⟨r, hr⟩ : ∃ r, w.heap.size = r := ⟨_, rfl⟩
  rw [hr] at h1 h2
  rw [hr]
  have c1 : w2.cell? ⟨r, 0, none⟩ = some (.pointer (some ⟨B.p, 0, none⟩)) := cell_of_heap h1 rfl
  have n1 := heap_lt h1
  have HX := Lib.hid hx
  have HS := Lib.hid (show StAt w2 (r + 1) s from h2)
  clear e2 h1 h2 hx hr
  go_upto_region 4 with (go_at_call 22; refine (sides_any B P _ (HP.out.ext HX.out)).mono ?_; rintro _ w3 ⟨rfl, hx3⟩)
  have HX3 := Lib.hid (HX.out.trans hx3)
  have HB3 := Lib.hid (HB.out.ext HX3.out)
  have HS3 := Lib.hid (HS.out.ext hx3)
  have d0 : w3.cell? ⟨p, 0, none⟩ = some (.int .i64 P.W) := cell_of_heap HB3.out.b rfl
  have d1 : w3.cell? ⟨p, 1, none⟩ = some (.int .i64 P.H) := cell_of_heap HB3.out.b rfl
  have d2 : w3.cell? ⟨p, 2, none⟩ = some (.slice (some ⟨g, 0, none⟩) T.length T.length) := cell_of_heap HB3.out.b rfl
  have n3 := heap_lt HB3.out.b
  clear hx3 c1 n1
  go_wp2_with (first | (go_at_call 80; refine (HO.out _ HX3.out).mono ?_; rintro _ w4 ⟨rfl, hx4⟩; have ls := StAt.load (HS3.out.ext hx4); have ns := heap_lt (HS3.out.ext hx4)) | (go_at_call 58; refine (HCK.out _).mono ?_; rintro _ w5 ⟨rfl, hx5⟩))
  go_ret2
  exact ⟨rfl, HX3.out.trans (hx4.trans hx5)⟩
set_option maxHeartbeats 8000000 in
theorem bpaint_ok (base p g : Nat) (T : List Tl) (n : Int) (B : Pb) (P : Pl) (s : St) (v : Value) (zs : List Int) (w : World) (hb : BinAt base w p g P.W P.H T n) (hp : PlAt w B P) (hv : Ints .i64 w v zs) (ho : onceB zs T.length = true) (hs : stOk s = true) (hT : T.length ≤ 1000) (hT2 : ∀ x ∈ T, x.2.length ≤ 10000) (hT3 : ∀ x ∈ T, ∀ q ∈ x.2, q.1.vars.length ≤ 1000) (hz : zs.length ≤ 1000) (hvb : ∀ b, v.ownBlock = some b → b ≠ B.c ∧ b ≠ B.d ∧ b ≠ B.m) :
    Calls Try.prog 47 #[.pointer (some ⟨p, 0, none⟩), .pointer (some ⟨B.p, 0, none⟩), .agg s.C.toArray, v] w fun e w' => e = .returned (.tuple #[.int .i64 (paintK s (skel T) zs (P, 0)).2, .int .i64 0]) ∧ PlAt w' B (paintK s (skel T) zs (P, 0)).1 ∧ BinAt base w' p g P.W P.H (T.map fun _ => (.slice none 0 0, [])) 0 ∧ Chg [p, g, B.c, B.d, B.m] w w' := by
  have HB := Lib.hid hb
  have HP := Lib.hid hp
  have HV := Lib.hid hv
  have HO := Lib.hid (fun w' x' => once_any v zs T.length w' (hv.ext x') hT (by omega))
  rw [ho] at HO
  have HCK := Lib.hid (check_any s)
  rw [hs] at HCK
  have HSO := Lib.hid hs
  have HON := Lib.hid ho
  have HVB := Lib.hid hvb
  obtain ⟨⟨_, av, cap, rfl, _⟩, _⟩ := hv
  have i1 : (zs.length : Int) ≤ 1000 := by omega
  have HT2 := Lib.hid (And.intro hT (And.intro hT2 hT3))
  clear hb hp ho hT hT2 hT3 hs hvb
  refine calls_of_marks Try.func47 rfl ?_
  simp only [Try.ntmps47, List.size_toArray, List.length_cons, List.length_nil, Nat.reduceAdd, Nat.reduceSub, Array.replicate_succ, Array.replicate_zero, List.push_toArray, List.append_toArray, List.nil_append, List.cons_append]
  go_upto_region 1 with fail
  obtain ⟨w2, e2, h1, h2, hx⟩ := heap2x w (.cells #[.pointer (some ⟨B.p, 0, none⟩)] 29) (.cells s.C.toArray 42)
  rw [e2]
  obtain ⟨r, hr⟩ : ∃ r, w.heap.size = r := ⟨_, rfl⟩
  have HR := Lib.hid hr
  rw [hr] at h1 h2
  rw [hr]
  have c1 : w2.cell? ⟨r, 0, none⟩ = some (.pointer (some ⟨B.p, 0, none⟩)) := cell_of_heap h1 rfl
  have n1 := heap_lt h1
  have HX := Lib.hid hx
  have HQ := Lib.hid h1
  have HS := Lib.hid (show StAt w2 (r + 1) s from h2)
  clear e2 h1 h2 hx hr
  go_upto_region 4 with (go_at_call 22; refine (sides_any B P _ (HP.out.ext HX.out)).mono ?_; rintro _ w3 ⟨rfl, hx3⟩)
  have HX3 := Lib.hid (HX.out.trans hx3)
  have HB3 := Lib.hid (HB.out.ext HX3.out)
  have HS3 := Lib.hid (HS.out.ext hx3)
  have HQ3 := Lib.hid (hx3.heap HQ.out)
  have d0 : w3.cell? ⟨p, 0, none⟩ = some (.int .i64 P.W) := cell_of_heap HB3.out.b rfl
  have d1 : w3.cell? ⟨p, 1, none⟩ = some (.int .i64 P.H) := cell_of_heap HB3.out.b rfl
  have d2 : w3.cell? ⟨p, 2, none⟩ = some (.slice (some ⟨g, 0, none⟩) T.length T.length) := cell_of_heap HB3.out.b rfl
  have n3 := heap_lt HB3.out.b
  clear hx3 c1 n1 HX HQ HS
  go_upto_region 8 with (first | (go_at_call 80; refine (HO.out _ HX3.out).mono ?_; rintro _ w4 ⟨rfl, hx4⟩; have ls := StAt.load (HS3.out.ext hx4); have ns := heap_lt (HS3.out.ext hx4)) | (go_at_call 58; refine (HCK.out _).mono ?_; rintro _ w5 ⟨rfl, hx5⟩))
  have HX5 := Lib.hid (HX3.out.trans (hx4.trans hx5))
  have HS5 := Lib.hid ((HS3.out.ext hx4).ext hx5)
  have HQ5 := Lib.hid ((hx4.trans hx5).heap HQ3.out)
  clear hx4 hx5 ls ns d0 d1 d2 n3 HX3 HB3 HS3 HQ3 HO HCK
  go_upto_region 9 with fail
  obtain ⟨w6, hw6, hn6, hx6⟩ : ∃ w6, w5.alloc (.cells #[.int .i64 0] 3) = w6 ∧ w6.heap[w5.heap.size]? = some (.cells #[.int .i64 0] 3 (0, 0)) ∧ Ext w5 w6 := ⟨_, rfl, heap_alloc_new _ _, (Ext.refl _).alloc _⟩
  rw [hw6]
  obtain ⟨bn, hbn⟩ : ∃ bn, w5.heap.size = bn := ⟨_, rfl⟩
  have HBN : Hid (w.heap.size ≤ bn ∧ r + 1 < bn) := Lib.hid (by have := HX5.out.size; have := heap_lt HS5.out; omega)
  rw [hbn] at hn6
  rw [hbn]
  have HN6 := Lib.hid hn6
  have HX6 := Lib.hid (HX5.out.trans hx6)
  have HS6 := Lib.hid (HS5.out.ext hx6)
  have HQ6 := Lib.hid (hx6.heap HQ5.out)
  clear hw6 hn6 hx6 hbn HX5 HS5 HQ5
  go_wp2_with fail
  -- the loop
  have HP6 := Lib.hid (HP.out.ext HX6.out)
  have HB6 := Lib.hid (HB.out.ext HX6.out)
  have HBL : Hid (r ≤ w6.heap.size ∧ B.p < r ∧ B.c < r ∧ B.d < r ∧ B.m < r ∧ w.heap.size = r ∧ bn < w6.heap.size) := Lib.hid (by have := HR.out; have := HX6.out.size; have := heap_lt HP.out.p; have := heap_lt HP.out.c; have := heap_lt HP.out.d; have := heap_lt HP.out.m; have := heap_lt HN6.out; omega)
  have HTY : Hid (∀ m ∈ [bn, B.c, B.d, B.m], ∃ cs e, w6.heap[m]? = some (.cells cs e (0, 0)) ∧ e ≠ 99 ∧ e ≠ 26 ∧ e ≠ 152 ∧ e ≠ 92) := Lib.hid (by
    intro m hm
    simp only [List.mem_cons, List.not_mem_nil, or_false] at hm
    rcases hm with rfl | rfl | rfl | rfl
    · exact ⟨_, _, HN6.out, by decide, by decide, by decide, by decide⟩
    · exact ⟨_, _, HP6.out.c, by decide, by decide, by decide, by decide⟩
    · exact ⟨_, _, HP6.out.d, by decide, by decide, by decide, by decide⟩
    · exact ⟨_, _, HP6.out.m, by decide, by decide, by decide, by decide⟩)
  refine wp_loop (fun a' W => ∃ (k : Nat) (ds : List Deferred) (x1 x2 x3 x4 x7 x8 x9 x10 x11 x13 x14 x15 x16 x17 x18 x19 x20 x21 x22 x23 x24 x25 x26 x27 x28 x29 x30 x31 x32 x33 x34 x35 x36 x37 x38 x39 x40 x41 x42 x43 x44 x45 x46 x47 x48 x49 x50 x51 x52 x53 x54 x55 x56 x57 x58 x62 x63 x64 x65 x66 x67 x68 x69 x70 x71 x72 x73 x74 x75 x76 x77 x78 x79 x80 x81 x82 x83 x84 x85 x86 x87 x88 x89 x90 x91 : Value), k ≤ zs.length ∧ Marks r W ds ∧ Hid (PInv B w6 W bn (paintK s (skel T) (zs.take k) (P, 0)) (10000 * k)) ∧ a' = { tmps := (#[.pointer (some ⟨p, 0, none⟩), x1, x2, x3, x4, .pointer (some ⟨r, 0, none⟩), .pointer (some ⟨r + 1, 0, none⟩), x7, x8, x9, x10, x11, .pointer (some ⟨bn, 0, none⟩), x13, x14, x15, x16, x17, x18, x19, x20, x21, x22, x23, x24, x25, x26, x27, x28, x29, x30, x31, x32, x33, x34, x35, x36, x37, x38, x39, x40, x41, x42, x43, x44, x45, x46, x47, x48, x49, x50, x51, x52, x53, x54, x55, x56, x57, x58, .slice av zs.length cap, .int .i64 zs.length, .int .i64 k, x62, x63, x64, x65, x66, x67, x68, x69, x70, x71, x72, x73, x74, x75, x76, x77, x78, x79, x80, x81, x82, x83, x84, x85, x86, x87, x88, x89, x90, x91] : Array Value), defers := ds }) (fun a' _ => zs.length - (intOf (a'.tmps.getD 61 undef)).toNat) ⟨0, [], _, _, _, _, _, _, _, _, _, _, _, _, _, _, _, _, _, _, _, _, _, _, _, _, _, _, _, _, _, _, _, _, _, _, _, _, _, _, _, _, _, _, _, _, _, _, _, _, _, _, _, _, _, _, _, _, _, _, _, _, _, _, _, _, _, _, _, _, _, _, _, _, _, _, _, _, _, _, _, _, _, _, _, _, _, Nat.zero_le _, Marks.nil _ _, Lib.hid ⟨HP6.out, HN6.out, Chg.refl _ _, Nat.zero_le _⟩, rfl⟩ ?_
  rintro a' W ⟨k, ds, x1, x2, x3, x4, x7, x8, x9, x10, x11, x13, x14, x15, x16, x17, x18, x19, x20, x21, x22, x23, x24, x25, x26, x27, x28, x29, x30, x31, x32, x33, x34, x35, x36, x37, x38, x39, x40, x41, x42, x43, x44, x45, x46, x47, x48, x49, x50, x51, x52, x53, x54, x55, x56, x57, x58, x62, x63, x64, x65, x66, x67, x68, x69, x70, x71, x72, x73, x74, x75, x76, x77, x78, x79, x80, x81, x82, x83, x84, x85, x86, x87, x88, x89, x90, x91, hk, hm, HI, rfl⟩
  by_cases hlt : k < zs.length
  · have hki : (k : Int) < (zs.length : Int) := by omega
    obtain ⟨z, hz⟩ : ∃ z, zs[k]? = some z := ⟨_, List.getElem?_eq_getElem hlt⟩
    have HZI := Lib.hid (onceB_in HON.out z (List.mem_of_getElem? hz))
    have hvw := (HV.out.ext HX6.out).chg HI.out.c (fun b hb h0 => by
      obtain ⟨h1, h2, h3⟩ := HVB.out b hb
      have h4 := HV.out.1.lt hb h0
      have h5 := HBN.out
      simp only [List.mem_cons, List.not_mem_nil, or_false]
      omega)
    obtain ⟨ab, off, rfl, hab, hcell⟩ := hvw.pos (by omega)
    have cz : W.cell? ⟨ab, off + k, none⟩ = some (.int .i64 z) := by
      have h := hcell k hlt
      rw [List.getD_eq_getElem?_getD, hz] at h
      exact h
    have HBW := Lib.hid (HB6.out.chg HI.out.c HTY.out)
    have HLI := Lib.hid (list_any base p g P.W P.H T n z W HBW.out (fun x hx => by have := HT2.out.2.1 x hx; omega) HT2.out.1)
    have HM := Lib.hid hm
    have HZK := Lib.hid hz
    have hkw := hvw.1.2
    clear hvw hcell hz hm
    go_wp2_with (go_at_call 51; refine HLI.out.mono ?_; rintro _ w7 ⟨cb, lv, rfl, hcb, hc7, hs7, hl7, hx7⟩)
    obtain ⟨L, hL⟩ : ∃ L, tlL T z = L := ⟨_, rfl⟩
    have HLK : Hid (L.map (·.1) = (skel T).getD z.toNat []) := Lib.hid (by rw [← hL, tlL_skel, if_pos]; exact HZI.out)
    have HLL : Hid (L.length ≤ 10000 ∧ ∀ q ∈ L, q.1.vars.length ≤ 1000) := Lib.hid (by
      refine ⟨?_, fun q hq => ?_⟩
      · rw [← hL]
        unfold tlL
        split
        · rename_i h
          rw [List.getD_eq_getElem?_getD, List.getElem?_eq_getElem (by omega)]
          exact HT2.out.2.1 _ (List.getElem_mem _)
        · exact Nat.zero_le _
      · rw [← hL] at hq
        obtain ⟨i, x, hx, hq⟩ := tlL_mem hq
        exact HT2.out.2.2 x (List.mem_of_getElem? hx) q hq)
    have HSN : Hid (∀ m ∈ [bn, B.c, B.d, B.m], ¬ lS cb lv L m) := Lib.hid (by
      intro m hm hs
      have hmlt : m < W.heap.size := by
        have h1 := HBL.out
        have h2 := HI.out.c.size
        simp only [List.mem_cons, List.not_mem_nil, or_false] at hm
        omega
      rcases hs with rfl | hs | ⟨q, hq, hs⟩
      · omega
      · have := (hl7 m hs).1
        omega
      · rw [← hL] at hq
        obtain ⟨i, x, hx, hq⟩ := tlL_mem hq
        obtain ⟨cs1, e1, h1, _, h3, _⟩ := HTY.out m hm
        obtain ⟨cur, h2, _⟩ := own_type ((HB6.out.t i x hx).2 q hq) hs
        rw [h2] at h1
        simp only [Option.some.injEq, Obj.cells.injEq] at h1
        exact h3 h1.2.1.symm)
    have hS7 : ∀ k, lS cb lv L k → k < w7.heap.size := fun k hk => by
      rcases hk with rfl | hk | ⟨q, hq, hk⟩
      · exact heap_lt hc7
      · exact (hl7 k hk).2
      · rw [← hL] at hq
        obtain ⟨i, x, hx, hq⟩ := tlL_mem hq
        obtain ⟨cur, h2, _⟩ := own_type ((HBW.out.t i x hx).2 q hq) hk
        exact Nat.lt_of_lt_of_le (heap_lt h2) hx7.size
    rw [hL] at hs7
    have HI7 := Lib.hid (HI.out.ext hx7)
    have HM7 := Lib.hid (HM.out.ext hx7)
    have hs67 : w6.heap.size ≤ w7.heap.size := Nat.le_trans HI.out.c.size hx7.size
    obtain ⟨a0, ha0⟩ : ∃ a0, paintK s (skel T) (zs.take k) (P, 0) = a0 := ⟨_, rfl⟩
    rw [ha0] at HI7
    have hbl := HBL.out
    refine range_lawT rfl (enters_of Try.func82 (by kernel_rfl) rfl) (list_tells cb lv L w7 hc7 hs7 HLL.out.2) (Below.refl _ _) hS7 (fun k args W h => by obtain ⟨q, vs, _, h, _⟩ := h; rw [h]; rfl) (fun k args A B h t => by obtain ⟨q, vs, h1, h2, h3⟩ := h; exact ⟨q, vs, h1, h2, ownsRow_turn h3 t⟩)
      (fun j W' => PInv B w6 W' bn (((L.map (·.1)).take j).foldl (stepK s) a0) (10000 * k + j) ∧ Chg [bn, B.c, B.d, B.m] w7 W') (fun _ _ => False)
      (fun j A B h t => ⟨h.1.turn t hs67, h.2.turn t (Nat.le_refl _)⟩) (fun _ _ _ h _ => h) ⟨HI7.out, Chg.refl _ _⟩
      (fun t j args a' W' => ∃ (bs : Nat) (cs : Array Value), args.getD 1 undef = .agg cs ∧ a' = { tmps := ((t.setIfInBounds 68 (args.getD 0 undef)).setIfInBounds 69 (args.getD 1 undef)).setIfInBounds 16 (.pointer (some ⟨bs, 0, none⟩)), defers := [] } ∧ W'.heap[bs]? = some (.cells cs 99 (0, 0)))
      (fun t j args a' A B h x => by obtain ⟨bs, cs, h1, h2, h3⟩ := h; exact ⟨bs, cs, h1, h2, x.cells h3⟩) ?assign ?body ?done ?stop
    case stop => rintro D c W _ h; exact h.elim
    case assign =>
      rintro lp j args W2 K hj _ ⟨q, vs, hq, hg, hown⟩ hK
      subst hg
      obtain ⟨va, vc, rfl⟩ := ownsB_slice hown
      obtain ⟨w3, hst3, h3, hx3⟩ := newStroke W2 (q.1, .slice va q.1.vars.length vc) (by cases va <;> rfl)
      obtain ⟨⟨x, y, z1, iw, fb, ⟨p0, p1, p2, p3⟩, l, ⟨c0, c1, c2, c3⟩⟩, vv⟩ := q
      have H3 := Lib.hid h3
      have HX3 := Lib.hid hx3
      clear h3 hx3 hown hq
      gi_wp2
      exact hK _ _ HX3.out ⟨_, _, rfl, rfl, H3.out⟩
    case body =>
      rintro lp j args a' wb hj hszb ⟨hib, hcb2⟩ ⟨q, vs, hq, hargs, hown⟩ ⟨bs, cs, hcs, ha, hbs⟩
      subst ha
      subst hargs
      obtain rfl : (skC (q.1, vs)).toArray = cs := Value.agg.inj hcs
      obtain ⟨⟨Pj, nj⟩, haj⟩ : ∃ a, ((L.map (·.1)).take j).foldl (stepK s) a0 = a := ⟨_, rfl⟩
      have HST : Hid (((L.map (·.1)).take (j + 1)).foldl (stepK s) a0 = stepK s (Pj, nj) q.1) := Lib.hid (by
        rw [List.take_add_one, List.getElem?_map, hq, List.foldl_append, haj]
        rfl)
      rw [haj] at hib
      have HIB := Lib.hid hib
      have HCB := Lib.hid hcb2
      have hnj : nj ≤ 10000 * k + j := hib.l
      have hjl := HLL.out.1
      have hq' := hib.c.heap HQ6.out (by have := HBL.out; have := HBN.out; simp only [List.mem_cons, List.not_mem_nil, or_false]; omega)
      have cq : wb.cell? ⟨r, 0, none⟩ = some (.pointer (some ⟨B.p, 0, none⟩)) := cell_of_heap hq' rfl
      have nq := heap_lt hq'
      have hs' : StAt wb (r + 1) s := hib.c.heap HS6.out (by have := HBL.out; have := HBN.out; simp only [List.mem_cons, List.not_mem_nil, or_false]; omega)
      have ls := StAt.load hs'
      have ns := heap_lt hs'
      have lf := skB_frag hbs
      have lc := skB_col hbs
      have nb := heap_lt hbs
      have HNN := Lib.hid hib.n
      have hbnM : bn ∉ [B.c, B.d, B.m] := by have := HBL.out; have := HBN.out; simp only [List.mem_cons, List.not_mem_nil, or_false]; omega
      have HBM := Lib.hid hbnM
      have hnn := heap_lt hib.n
      cases hin : inP Pj.W Pj.H q.1.x q.1.y with
      | false =>
        have HPI := Lib.hid (paintp_out B Pj s ⟨q.1.x, q.1.y, q.1.z, q.1.iw, q.1.front, q.1.pt, vs⟩ q.1.col HSO.out hin wb hib.p)
        have HIN := Lib.hid hin
        clear hq' hs' hbs hib hcb2 haj hq hown hin hcs hbnM hbl hl7 hs7 hc7 hx7
        gi_wp2_with (refine ⟨trivial, callR (HPI.out.mono ?_)⟩; rintro _ wc ⟨rfl, hxc⟩)
        refine ⟨hxc.keeps, hxc.kept, ?_, HCB.out.ext2 hxc⟩
        have e : stepK s (Pj, nj) q.1 = (Pj, nj) := by unfold stepK; rw [if_neg]; rw [HIN.out]; decide
        rw [HST.out, e]
        exact ⟨HIB.out.p.ext hxc, hxc.heap HIB.out.n, HIB.out.c.ext2 hxc, by show nj ≤ _; omega⟩
      | true =>
        have hpi := paintp_in B Pj s ⟨q.1.x, q.1.y, q.1.z, q.1.iw, q.1.front, q.1.pt, vs⟩ q.1.col HSO.out hin wb hib.p
        obtain ⟨bb, hbb⟩ : ∃ bb, (ptV s ⟨q.1.x, q.1.y, q.1.z, q.1.iw, q.1.front, q.1.pt, vs⟩ q.1.col Pj).2 = bb := ⟨_, rfl⟩
        rw [hbb] at hpi
        have HE : Hid (stepK s (Pj, nj) q.1 = (ptP s ⟨q.1.x, q.1.y, q.1.z, q.1.iw, q.1.front, q.1.pt, vs⟩ q.1.col Pj, nj + if bb then 1 else 0)) := Lib.hid (by
          unfold stepK
          rw [if_pos hin, ← hbb]
          rfl)
        obtain ⟨Pn, hPn⟩ : ∃ Pn, ptP s ⟨q.1.x, q.1.y, q.1.z, q.1.iw, q.1.front, q.1.pt, vs⟩ q.1.col Pj = Pn := ⟨_, rfl⟩
        rw [hPn] at hpi HE
        have HPI := Lib.hid hpi
        clear hq' hs' hbs hib hcb2 haj hq hown hin hcs hbnM hbl hl7 hs7 hc7 hx7 hpi hbb hPn
        cases bb with
        | false =>
          gi_wp2_with (refine ⟨trivial, callR (HPI.out.mono ?_)⟩; rintro _ wc ⟨rfl, hp2, hc2⟩)
          have hcc : Chg [bn, B.c, B.d, B.m] wb wc := hc2.mono (by intro k hk; exact List.mem_cons_of_mem _ hk)
          refine ⟨hcc.keeps (fun k hk => .inl ?_), hcc.kept (fun m hm => HSN.out m hm), ?_, HCB.out.trans hcc⟩
          · have := HBL.out
            simp only [List.mem_cons, List.not_mem_nil, or_false] at hk
            omega
          · rw [HST.out, HE.out]
            exact ⟨hp2, hc2.heap HNN.out HBM.out, HIB.out.c.trans hcc, by show nj + 0 ≤ _; omega⟩
        | true =>
          gi_wp2_with (refine ⟨trivial, callR (HPI.out.mono ?_)⟩; rintro _ wc ⟨rfl, hp2, hc2⟩; have hn2 := hc2.heap HNN.out HBM.out; have cn2 : wc.cell? ⟨bn, 0, none⟩ = some (.int .i64 nj) := cell_of_heap hn2 rfl; have fn2 : wc.frozen? ⟨bn, 0, none⟩ = false := free_of_heap hn2; have nn2 := heap_lt hn2; have HP2 := Lib.hid hp2; have HC2 := Lib.hid hc2; have HN2 := Lib.hid hn2; clear hp2 hc2 hn2)
          have hset : Chg [bn] wc (wc.setCell ⟨bn, 0, none⟩ (.int .i64 (nj + 1 : Nat))) := (Chg.refl _ _).setCell (p := ⟨bn, 0, none⟩) (by simp) _
          have hcc : Chg [bn, B.c, B.d, B.m] wb (wc.setCell ⟨bn, 0, none⟩ (.int .i64 (nj + 1 : Nat))) := (HC2.out.mono (by intro k hk; exact List.mem_cons_of_mem _ hk)).trans (hset.mono (by intro k hk; rw [List.mem_singleton.1 hk]; exact List.mem_cons_self))
          refine ⟨hcc.keeps (fun k hk => .inl ?_), hcc.kept (fun m hm => HSN.out m hm), ?_, HCB.out.trans hcc⟩
          · have := HBL.out
            simp only [List.mem_cons, List.not_mem_nil, or_false] at hk
            omega
          · rw [HST.out, HE.out]
            have hbl := HBL.out
            have hbn := HBN.out
            exact ⟨HP2.out.chg hset (by simp; omega) (by simp; omega) (by simp; omega) (by simp; omega), heap_set HN2.out, HIB.out.c.trans hcc, by show nj + 1 ≤ _; omega⟩
    case done =>
      rintro D W2 hD ⟨hpl, hch⟩ hDW
      have hr7 : r ≤ w7.heap.size := by have := HBL.out; omega
      have HMK := Lib.hid (HM7.out.more hch (by
        intro m hm
        obtain ⟨cs1, e1, h1, _⟩ := HTY.out m hm
        have hb := HBL.out
        rcases List.mem_cons.1 hm with rfl | hm
        · exact ⟨_, HI7.out.n, rfl⟩
        · simp only [List.mem_cons, List.not_mem_nil, or_false] at hm
          rcases hm with rfl | rfl | rfl
          · exact ⟨_, HI7.out.p.c, rfl⟩
          · exact ⟨_, HI7.out.p.d, rfl⟩
          · exact ⟨_, HI7.out.p.m, rfl⟩) hr7 hD hDW)
      have hll := HLL.out.1
      rw [List.take_of_length_le (by rw [List.length_map]; exact Nat.le_refl _), HLK.out] at hpl
      have hpk : paintK s (skel T) (zs.take (k + 1)) (P, 0) = ((skel T).getD z.toNat []).foldl (stepK s) a0 := by
        rw [List.take_add_one, HZK.out]
        unfold paintK at ha0 ⊢
        rw [List.foldl_append, ha0]
        rfl
      rw [← hpk] at hpl
      have HPF : Hid (PInv B w6 W2 bn (paintK s (skel T) (zs.take (k + 1)) (P, 0)) (10000 * (k + 1))) := Lib.hid ⟨hpl.p, hpl.n, hpl.c, by have := hpl.l; omega⟩
      clear hpl hch hDW hpk ha0 hl7 hs7 hc7 hx7 hbl
      go_wp2_with fail
      exact ⟨⟨k + 1, _, _, _, _, _, _, _, _, _, _, _, _, _, _, _, _, _, _, _, _, _, _, _, _, _, _, _, _, _, _, _, _, _, _, _, _, _, _, _, _, _, _, _, _, _, _, _, _, _, _, _, _, _, _, _, _, _, _, _, _, _, _, _, _, _, _, _, _, _, _, _, _, _, _, _, _, _, _, _, _, _, _, _, _, _, _, by omega, HMK.out, HPF.out, rfl⟩, by simp [intOf]; omega⟩
  · have hkN : k = zs.length := by omega
    subst hkN
    rw [List.take_length] at HI
    obtain ⟨⟨Pf, nf⟩, haf⟩ : ∃ a, paintK s (skel T) zs (P, 0) = a := ⟨_, rfl⟩
    rw [haf] at HI

    have HM := Lib.hid hm
    have hbw := HB6.out.chg HI.out.c HTY.out
    have HBW := Lib.hid hbw
    have hpos : 0 < T.length := by
      rw [hbw.l]
      have h1 := HP.out.ok.w1
      have h2 := HP.out.ok.h1
      exact Nat.mul_pos (by unfold acr; omega) (by unfold acr; omega)
    have hne := hbw.ne
    have hcl := fun ty => Lib.run_clear_slice W 150 92 ty (.slice none 0 0) Try.underlying150 (fun w => by kernel_rfl) rfl rfl g 0 T.length T.length hpos (fun j hj => by
      have : W.cell? ⟨g, 0 + j, none⟩ = some (T[j].1) := cell_of_heap hbw.r (by rw [Nat.zero_add, List.getElem?_toArray, List.getElem?_map, List.getElem?_eq_getElem hj]; rfl)
      rw [this]
      rfl) (fun j hj => free_of_heap hbw.r)
    have hg8 := heap_setCells_whole hbw.r (List.replicate T.length (Value.slice none 0 0)).toArray (by simp)
    have hc8 := chg_setCells (M := [g]) (b := g) (by simp) (List.replicate T.length (Value.slice none 0 0)) 0 W (Chg.refl _ _)
    obtain ⟨w8, hw8⟩ : ∃ w8, W.setCells g 0 (List.replicate T.length (Value.slice none 0 0)) = w8 := ⟨_, rfl⟩
    rw [hw8] at hc8
    have hg8 : w8.heap[g]? = some (.cells (List.replicate T.length (Value.slice none 0 0)).toArray 92 (0, 0)) := by rw [← hw8]; exact hg8
    simp only [hw8] at hcl
    have hp8 := hc8.heap hbw.b (by simp; exact hne)
    have hbl := HBL.out
    have hbn := HBN.out
    have hbg : g < w.heap.size := heap_lt HB.out.r
    have hbp : p < w.heap.size := heap_lt HB.out.b
    have hn8 := hc8.heap HI.out.n (by simp; omega)
    have c2 : W.cell? ⟨p, 2, none⟩ = some (.slice (some ⟨g, 0, none⟩) T.length T.length) := cell_of_heap hbw.b rfl
    have np := heap_lt hbw.b
    have c3 : w8.cell? ⟨p, 3, none⟩ = some (.int .i64 n) := cell_of_heap hp8 rfl
    have f3 : w8.frozen? ⟨p, 3, none⟩ = false := free_of_heap hp8
    have np8 := heap_lt hp8
    have cn8 : w8.cell? ⟨bn, 0, none⟩ = some (.int .i64 nf) := cell_of_heap hn8 rfl
    have nn8 := heap_lt hn8
    have hpb : p ≠ bn := by omega
    have hbp2 : bn ≠ p := by omega
    have HP8 := Lib.hid hp8
    have HG8 := Lib.hid hg8
    have HC8 := Lib.hid hc8
    have HNE := Lib.hid hne
    clear hbw hp8 hg8 hc8 hm hbl hbn hbg hbp hn8 hw8 hne hpos
    go_wp2_with (simp only [hcl])
    obtain ⟨w9, hw9⟩ : ∃ w9, w8.setCell ⟨p, 3, none⟩ (.int .i64 0) = w9 := ⟨_, rfl⟩
    have hset : Chg [p] w8 w9 := by rw [← hw9]; exact (Chg.refl _ _).setCell (p := ⟨p, 3, none⟩) (by simp) _
    have hp9 := heap_set (k := 3) (u := .int .i64 0) HP8.out
    rw [hw9] at hp9
    rw [hw9]
    have hpl : BAt w9 p P.W P.H (.slice (some ⟨g, 0, none⟩) T.length T.length) 0 := hp9
    have hg9 := hset.heap HG8.out (by simp; exact fun h => HNE.out h.symm)
    have hcg : Chg [p, g] W w9 := (HC8.out.mono (by simp)).trans (hset.mono (by simp))
    have hcells : ∀ m ∈ [p, g], ∃ o : Obj, W.heap[m]? = some o ∧ o.isCells = true := fun m hm => by
      simp only [List.mem_cons, List.not_mem_nil, or_false] at hm
      rcases hm with rfl | rfl
      · exact ⟨_, HBW.out.b, rfl⟩
      · exact ⟨_, HBW.out.r, rfl⟩
    have hbl := HBL.out
    have hbn := HBN.out
    have hbg : g < w.heap.size := heap_lt HB.out.r
    have hbp : p < w.heap.size := heap_lt HB.out.b
    have hcw : Chg [p, g, B.c, B.d, B.m] w W := ((HX6.out.chg _).mix HI.out.c (fun i hi => by
      simp only [List.mem_cons, List.not_mem_nil, or_false] at hi ⊢
      rcases hi with h | h | h | h
      · right; omega
      · left; simp [h]
      · left; simp [h]
      · left; simp [h]))
    have hcw9 := hcw.trans (hcg.mono (N := [p, g, B.c, B.d, B.m]) (by simp))
    have hty : ∀ (b : Nat) (cs1 cs2 : Array Value) (e1 e2 : TypeId), W.heap[b]? = some (.cells cs1 e1 (0, 0)) → W.heap[b]? = some (.cells cs2 e2 (0, 0)) → e1 = e2 := fun b cs1 cs2 e1 e2 h1 h2 => by
      rw [h1] at h2
      simp only [Option.some.injEq, Obj.cells.injEq] at h2
      exact h2.2.1
    have hpl9 : PlAt w9 B Pf := HI.out.p.chg hcg
      (fun hm => by
        simp only [List.mem_cons, List.not_mem_nil, or_false] at hm
        rcases hm with hm | hm
        · exact absurd (hty _ _ _ _ _ (by rw [hm]; exact HBW.out.b) HI.out.p.p) (by decide)
        · exact absurd (hty _ _ _ _ _ (by rw [hm]; exact HBW.out.r) HI.out.p.p) (by decide))
      (fun hm => by
        simp only [List.mem_cons, List.not_mem_nil, or_false] at hm
        rcases hm with hm | hm
        · exact absurd (hty _ _ _ _ _ (by rw [hm]; exact HBW.out.b) HI.out.p.c) (by decide)
        · exact absurd (hty _ _ _ _ _ (by rw [hm]; exact HBW.out.r) HI.out.p.c) (by decide))
      (fun hm => by
        simp only [List.mem_cons, List.not_mem_nil, or_false] at hm
        rcases hm with hm | hm
        · exact absurd (hty _ _ _ _ _ (by rw [hm]; exact HBW.out.b) HI.out.p.d) (by decide)
        · exact absurd (hty _ _ _ _ _ (by rw [hm]; exact HBW.out.r) HI.out.p.d) (by decide))
      (fun hm => by
        simp only [List.mem_cons, List.not_mem_nil, or_false] at hm
        rcases hm with hm | hm
        · exact absurd (hty _ _ _ _ _ (by rw [hm]; exact HBW.out.b) HI.out.p.m) (by decide)
        · exact absurd (hty _ _ _ _ _ (by rw [hm]; exact HBW.out.r) HI.out.p.m) (by decide))
    have hbin : BinAt base w9 p g P.W P.H (T.map fun _ => (.slice none 0 0, [])) 0 :=
      ⟨by rw [List.length_map]; exact hpl, by
        rw [hg9, List.map_map]
        congr 4
        exact (List.eq_replicate_iff.2 ⟨by simp, fun b hb => by obtain ⟨y, _, rfl⟩ := List.mem_map.1 hb; rfl⟩).symm, fun i x hx => by
        rw [List.getElem?_map] at hx
        obtain ⟨y, _, rfl⟩ := Option.map_eq_some_iff.1 hx
        exact ⟨World.ownsRow_nil _ _ _ _, by simp⟩, fun i j x y hx _ _ k hk => by
        rw [List.getElem?_map] at hx
        obtain ⟨y, _, rfl⟩ := Option.map_eq_some_iff.1 hx
        simp [Value.ownBlock] at hk, by rw [List.length_map]; exact HB.out.l, Nat.le_trans HB.out.h1 hcw9.size, HB.out.h2, HB.out.h3⟩
    have hm9 := HM.out.chg hcg hcells
    refine retM hm9 fun W3 ht => ?_
    refine ⟨.tuple #[.int .i64 nf, .int .i64 0], by simp [results, go_sem, Try.f47], rfl, ⟨hpl9.ok, hpl9.pn, ht.cells hpl9.p, ht.cells hpl9.c, ht.cells hpl9.d, ht.cells hpl9.m, hpl9.k⟩, ?_, hcw9.turn ht (by omega)⟩
    exact ⟨ht.cells hbin.b, ht.cells hbin.r, fun i x hx => ⟨ownsRow_turn (hbin.t i x hx).1 ht, fun q hq => ownsRow_turn ((hbin.t i x hx).2 q hq) ht⟩, hbin.d, hbin.l, Nat.le_trans hbin.h1 ht.size, hbin.h2, hbin.h3⟩
end
end Go.Proofs.Ytgdcdkajicgliaa
