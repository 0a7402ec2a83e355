/- The document's Cell and May. Conditions: each theorem's own premises. -/
import Derived.Test.YtgdcdkajicgliaaDoc1
namespace Go.Proofs.Ytgdcdkajicgliaa
open Go.RowKit
set_option linter.unusedVariables false
set_option linter.unusedSimpArgs false
set_option maxRecDepth 100000

/-- A cell's bits in a block. -/
def BtB (w : World) (g : Nat) (b : Bt) : Prop := w.heap[g]? = some (.cells b.C.toArray 140 (0, 0))
theorem newBt (w : World) (b : Bt) (h : b.c.oneCell' = true) : ∃ w', (@Classical.epsilon _ neG (StF 140 (.pointer (some ⟨w.heap.size, 0, none⟩)) (.agg b.C.toArray))).run Try.prog (w.alloc (.cells #[.slice none 0 0, .int .u32 0, .int .i64 0] 140)) = .ok () w' ∧ BtB w' w.heap.size b ∧ Ext w w' := by
  obtain ⟨h1, h2, h3⟩ := stF_mid 140 (L := [.slice none 0 0, .int .u32 0, .int .i64 0]) (heap_alloc_new w (.cells #[.slice none 0 0, .int .u32 0, .int .i64 0] 140)) 0 b.C (by simp [Bt.C]) (by kernel_rfl) (by simpa [Bt.C, Value.oneCell'] using h)
  refine ⟨_, h1, ?_, ((Ext.refl _).alloc _).chgTrans h3 (by simp)⟩
  have e : (List.take 0 [Value.slice none 0 0, .int .u32 0, .int .i64 0] ++ b.C ++ List.drop (0 + b.C.length) [Value.slice none 0 0, .int .u32 0, .int .i64 0]) = b.C := by simp [Bt.C]
  rw [e] at h2
  exact h2
theorem bt_one {k : IntKind} {w : World} {v : Value} {zs : List Int} (h : Ints k w v zs) : v.oneCell' = true := by
  obtain ⟨⟨_, a, cap, rfl, _⟩, _⟩ := h
  cases a <;> rfl
theorem colAt_len {P : Pl} (h : P.Ok) {i : Nat} (hi : i < P.W * P.H) : (colAt P i).length = szN P.F := by
  have := lay_fit h hi
  unfold colAt
  rw [List.length_take, List.length_drop]
  omega
/-- Planes, boxed, beside a result. -/
theorem dbox (w : World) (P : Pl) (v : Value) (Z : Array Value) (T : TypeId) : ∃ w2, (w.alloc (.cells (P.D v).toArray 76)).alloc (.cells Z T) = w2 ∧ DpAt w2 w.heap.size P v ∧ w2.heap[w.heap.size + 1]? = some (.cells Z T (0, 0)) ∧ Ext w w2 :=
  ⟨_, rfl, (heap_pair w _ _).1, (heap_pair w _ _).2, ((Ext.refl _).alloc _).alloc _⟩
section
attribute [local go_sem ↓] Ld_Bt St_Bt Ld_Ce St_Ce Ld_V4
set_option maxHeartbeats 4000000 in
theorem dcell_any (G : Nat → Prop) (P : Pl) (v : Value) (L : List Bt) (x y : Nat) (hx : x < P.W) (hy : y < P.H) (w : World) (h : DAt G w v P L) : Calls Try.prog 74 #[.agg (P.D v).toArray, .int .i64 x, .int .i64 y] w fun e w' => e = .returned (.agg (cellV P (y * P.W + x)).C.toArray) ∧ Ext w w' := by
  have hi := place_lt hx hy
  obtain ⟨i, hie⟩ : ∃ i, y * P.W + x = i := ⟨_, rfl⟩
  rw [hie] at hi ⊢
  obtain ⟨b, hb⟩ : ∃ b, L[i]? = some b := ⟨_, List.getElem?_eq_getElem (by rw [h.l]; exact hi)⟩
  have hw := h.ok.w2
  have hh := h.ok.h2
  have hwh := Nat.mul_le_mul hw hh
  have s1 : IntKind.i64.wrap ((y : Int) * (P.W : Int)) = ((y * P.W : Nat) : Int) := by
    have := Nat.mul_le_mul (show y ≤ 64 by omega) hw
    rw [← Int.natCast_mul]; exact IntWalk.i64_in _ (by omega)
  have s2 : IntKind.i64.wrap (((y * P.W : Nat) : Int) + (x : Int)) = ((i : Nat) : Int) := by rw [← Int.natCast_add, hie]; exact IntWalk.i64_in _ (by omega)
  obtain ⟨_, va, vcap, rfl, hn1, hn2, _, _⟩ := h.r
  have hll : L.length = P.W * P.H := h.l
  obtain ⟨g, off, rfl, _⟩ := bt_get h.r rfl hb
  have hii : (i : Int) < (L.length : Int) := by omega
  have hi0 : (0 : Int) ≤ (i : Int) := by omega
  have HG : Hid (∀ w', Ext w w' → (@Classical.epsilon _ neF (LdF 140 (.pointer (some ⟨g, off + i * 3, none⟩)))).run Try.prog w' = .ok (.agg b.C.toArray) w' ∧ g < w'.heap.size) := Lib.hid fun w' x' => by
    obtain ⟨g2, o2, he, h1, h2, _⟩ := bt_get (h.r.ext x') rfl hb
    simp only [Option.some.injEq, Addr.mk.injEq, and_true] at he
    obtain ⟨rfl, rfl⟩ := he
    exact ⟨h2, h1⟩
  have HC := Lib.hid (h.c i b hb)
  have HBD := Lib.hid (h.d i b hb)
  have HU := Lib.hid (fun (w' : World) (x' : Ext w w') => refunp_any P.F b.c (colAt P i) w' h.ok.f1 (by have := h.ok.f2; omega) (HC.out.ext x') (by rw [colAt_len h.ok hi, szN_V _ h.ok.f1 (by have := h.ok.f2; omega)]))
  rw [unp4_C] at HU
  have HCV := Lib.hid (show cellV P i = ⟨unp4 P.F (leN (colAt P i)), if P.dep then numV (P.dz.getD i 0) 16 else 65536, if P.sten then P.ms.getD i 0 else 0⟩ from rfl)
  have HDW : Hid (0 ≤ P.dz.getD i 0 ∧ P.dz.getD i 0 < 65536) := Lib.hid (by
    have hil : i < P.dz.length := by rw [h.ok.dz]; exact hi
    rw [List.getD_eq_getElem?_getD, List.getElem?_eq_getElem hil]
    exact u16_of_wf (h.ok.dzw _ (List.getElem_mem hil)))
  have HB1 := Lib.hid (bt_one HC.out)
  generalize unp4 P.F (leN (colAt P i)) = V at *
  have HU : Hid (∀ (w' : World), Ext w w' → Calls Try.prog 111 #[.int .i64 (P.F : Int), b.c] w' fun e w'' => e = .returned (.agg #[.int .i32 V.a, .int .i32 V.b, .int .i32 V.c, .int .i32 V.d]) ∧ Ext w' w'') := HU
  generalize cellV P i = CV at *
  generalize y * P.W = yw at *
  obtain ⟨w2, hw2, h2, hz2, hx2⟩ := dbox w P (.slice (some ⟨g, off, none⟩) L.length vcap) #[.int .i32 0, .int .i32 0, .int .i32 0, .int .i32 0, .int .i32 0, .int .i64 0] 45
  obtain ⟨r, hr⟩ : ∃ r, w.heap.size = r := ⟨_, rfl⟩
  have HR := Lib.hid hr
  have HW2 := Lib.hid hw2
  rw [hr] at h2 hz2
  have H2 := Lib.hid h2
  have HZ2 : Hid (CAt w2 (r + 1) ceZ) := Lib.hid hz2
  have HX2 := Lib.hid hx2
  have c0 : w2.cell? ⟨r, 0, none⟩ = some (.int .i64 P.W) := cell_of_heap h2 rfl
  have c5 : w2.cell? ⟨r, 5, none⟩ = some (.slice (some ⟨g, off, none⟩) L.length vcap) := cell_of_heap h2 rfl
  have n0 := heap_lt h2
  have lb := (HG.out w2 hx2).1
  have ng := (HG.out w2 hx2).2
  obtain ⟨w3, hst3, h3, hx3⟩ := newBt w2 b HB1.out
  have H3 := Lib.hid h3
  have HX3 := Lib.hid (hx2.trans hx3)
  have HX23 := Lib.hid hx3
  clear h hb hw hh hwh hi h2 hz2 hx2 h3 hx3 hw2 hn1 hn2 hll hie hr
  go_enter Try.func74, Try.ntmps74
  go_upto_region 1 with fail
  rw [HW2.out, HR.out]
  go_upto_region 2 with fail
  obtain ⟨b7, hb7⟩ : ∃ b7, w2.heap.size = b7 := ⟨_, rfl⟩
  rw [hb7] at H3
  rw [hb7]
  have HB7 : Hid (r + 1 < b7 ∧ b7 < w3.heap.size) := Lib.hid ⟨by rw [← hb7]; exact heap_lt HZ2.out, heap_lt H3.out⟩
  have d2 : w3.cell? ⟨r, 2, none⟩ = some (.int .i64 P.F) := cell_of_heap (HX23.out.heap H2.out) rfl
  have d0 : w3.cell? ⟨b7, 0, none⟩ = some b.c := cell_of_heap H3.out rfl
  have m0 := heap_lt (HX23.out.heap H2.out)
  have m7 := heap_lt H3.out
  clear c0 c5 n0 lb ng hb7 hst3 hi0 hii
  go_upto_region 3 with (go_at_call 111; refine (HU.out _ HX3.out).mono ?_; rintro _ w4 ⟨rfl, hx4⟩; obtain ⟨w5, hst5, h5, hx5⟩ := newC w4 ⟨V, 65536, 0⟩; have hst5 : (@Classical.epsilon _ neU (StP 45 (.pointer (some ⟨w4.heap.size, 0, none⟩)) (.agg #[.int .i32 V.a, .int .i32 V.b, .int .i32 V.c, .int .i32 V.d, .int .i32 65536, .int .i64 0]))).run Try.prog (w4.alloc (.cells #[.int .i32 0, .int .i32 0, .int .i32 0, .int .i32 0, .int .i32 0, .int .i64 0] 45)) = .ok () w5 := hst5)
  obtain ⟨b8, hb8⟩ : ∃ b8, w4.heap.size = b8 := ⟨_, rfl⟩
  rw [hb8] at h5
  rw [hb8]
  have HB8 : Hid (r + 1 < b7 ∧ b7 < b8) := Lib.hid ⟨HB7.out.1, by have := HB7.out.2; have := hx4.size; omega⟩
  have hne1 : ¬ b7 = b8 := by have := HB8.out; omega
  have hne2 : ¬ b8 = b7 := by omega
  have hne3 : ¬ r = b8 := by have := HB8.out; omega
  have hne4 : ¬ b8 = r := by omega
  have H5 := Lib.hid h5
  have HX5 := Lib.hid (HX3.out.trans (hx4.trans hx5))
  have HD5 := Lib.hid ((hx4.trans hx5).heap (HX23.out.heap H2.out))
  have HT5 := Lib.hid ((hx4.trans hx5).heap H3.out)
  have HZ5 := Lib.hid (((HZ2.out.ext HX23.out).ext hx4).ext hx5)
  clear hx4 hx5 h5 hst5 hb8 d2 d0 m0 m7
  have k3 : w5.cell? ⟨r, 3, none⟩ = some (.bool P.dep) := cell_of_heap HD5.out rfl
  have k4 : w5.cell? ⟨r, 4, none⟩ = some (.bool P.sten) := cell_of_heap HD5.out rfl
  have k1 : w5.cell? ⟨b7, 1, none⟩ = some (.int .u32 b.d) := cell_of_heap HT5.out rfl
  have k2 : w5.cell? ⟨b7, 2, none⟩ = some (.int .i64 b.s) := cell_of_heap HT5.out rfl
  have m0 := heap_lt HD5.out
  have m7 := heap_lt HT5.out
  have m8 := heap_lt H5.out
  have k84 : w5.cell? ⟨b8, 4, none⟩ = some (.int .i32 65536) := cell_of_heap H5.out rfl
  have k85 : w5.cell? ⟨b8, 5, none⟩ = some (.int .i64 0) := cell_of_heap H5.out rfl
  have z84 : w5.frozen? ⟨b8, 4, none⟩ = false := free_of_heap H5.out
  have z85 : w5.frozen? ⟨b8, 5, none⟩ = false := free_of_heap H5.out
  have mr := heap_lt HZ5.out
  cases hd : P.dep <;> cases hs : P.sten
  · rw [hd] at k3
    rw [hs] at k4
    have hbd := HBD.out
    rw [hd, hs] at hbd
    have HBE := Lib.hid hbd
    clear hbd
    have H9 := H5
    have HZ9 := HZ5
    have HX9 := HX5
    have l8 := CAt.load2 H9.out
    have t8 := CAt.store2 HZ9.out ⟨V, 65536, 0⟩
    have hsd := Lib.hid (CAt.stored HZ9.out ⟨V, 65536, 0⟩)
    have nr8 := heap_lt HZ9.out
    have nb8 := heap_lt H9.out
    have HXE : Hid (Ext w (w5.setCells (r + 1) 0 (⟨V, 65536, 0⟩ : Ce).C)) := Lib.hid (Ext.chgTrans HX9.out (chg_setCells (M := [r + 1]) (by simp) _ _ _ (Chg.refl _ _)) (by simp; rw [HR.out]; omega))
    go_wp2_with fail
    have hload := run_loadVar_whole (P := Try.prog) 45 _ hsd.out Try.underlying45 rfl rfl
    refine bodyPost_ret (results_cell1 rfl _ _ _ _ rfl hload) rfl ?_
    exact ⟨by rw [HCV.out, hd, hs]; rfl, HXE.out⟩
  · rw [hd] at k3
    rw [hs] at k4
    have hbd := HBD.out
    rw [hd, hs] at hbd
    have HBE := Lib.hid hbd
    clear hbd
    have H9 := H5
    have HZ9 := HZ5
    have HX9 := HX5
    obtain ⟨w7, hw7⟩ : ∃ w7, w5.setCell ⟨b8, 5, none⟩ (.int .i64 b.s) = w7 := ⟨_, rfl⟩
    have hc7 : Chg [b8] w5 w7 := by rw [← hw7]; exact (Chg.refl _ _).setCell (p := ⟨b8, 5, none⟩) (by simp) _
    have H9 := Lib.hid (show CAt w7 b8 ⟨V, 65536, b.s⟩ by rw [← hw7]; exact CAt.set5 H9.out b.s)
    have HZ9 := Lib.hid (HZ9.out.chg hc7 (by have := HB8.out; simp; omega))
    have HX9 := Lib.hid (HX9.out.chgTrans hc7 (by have := HB8.out; simp; rw [HR.out]; omega))
    have l8 := CAt.load2 H9.out
    have t8 := CAt.store2 HZ9.out ⟨V, 65536, b.s⟩
    have hsd := Lib.hid (CAt.stored HZ9.out ⟨V, 65536, b.s⟩)
    have nr8 := heap_lt HZ9.out
    have nb8 := heap_lt H9.out
    have HXE : Hid (Ext w (w7.setCells (r + 1) 0 (⟨V, 65536, b.s⟩ : Ce).C)) := Lib.hid (Ext.chgTrans HX9.out (chg_setCells (M := [r + 1]) (by simp) _ _ _ (Chg.refl _ _)) (by simp; rw [HR.out]; omega))
    go_wp2_with fail
    have hload := run_loadVar_whole (P := Try.prog) 45 _ hsd.out Try.underlying45 rfl rfl
    refine bodyPost_ret (results_cell1 rfl _ _ _ _ rfl hload) rfl ?_
    exact ⟨by rw [HCV.out, hd, hs]; rw [show P.ms.getD i 0 = b.s from HBE.out.2.symm]; rfl, HXE.out⟩
  · rw [hd] at k3
    rw [hs] at k4
    have hbd := HBD.out
    rw [hd, hs] at hbd
    have HBE := Lib.hid hbd
    clear hbd
    have H9 := H5
    have HZ9 := HZ5
    have HX9 := HX5
    have hz2 := HDW.out
    rw [show P.dz.getD i 0 = b.d from HBE.out.1.symm] at hz2
    have HN := Lib.hid (refNumber_any b.d 16 w5 hz2.1 hz2.2 (by decide) (by decide))
    obtain ⟨w6, hw6⟩ : ∃ w6, w5.setCell ⟨b8, 4, none⟩ (.int .i32 (numV b.d 16)) = w6 := ⟨_, rfl⟩
    have hc6 : Chg [b8] w5 w6 := by rw [← hw6]; exact (Chg.refl _ _).setCell (p := ⟨b8, 4, none⟩) (by simp) _
    have H9 := Lib.hid (show CAt w6 b8 ⟨V, numV b.d 16, 0⟩ by rw [← hw6]; exact CAt.set4 H9.out (numV b.d 16))
    have HZ9 := Lib.hid (HZ9.out.chg hc6 (by have := HB8.out; simp; omega))
    have HX9 := Lib.hid (HX9.out.chgTrans hc6 (by have := HB8.out; simp; rw [HR.out]; omega))
    have k2 : w6.cell? ⟨b7, 2, none⟩ = some (.int .i64 b.s) := cell_of_heap (hc6.heap HT5.out (by simp; exact hne1)) rfl
    have k4 : w6.cell? ⟨r, 4, none⟩ = some (.bool P.sten) := cell_of_heap (hc6.heap HD5.out (by simp; exact hne3)) rfl
    rw [hs] at k4
    have k85 : w6.cell? ⟨b8, 5, none⟩ = some (.int .i64 0) := cell_of_heap H9.out rfl
    have z85 : w6.frozen? ⟨b8, 5, none⟩ = false := free_of_heap H9.out
    have m07 := heap_lt (hc6.heap HD5.out (by simp; exact hne3))
    have m77 := heap_lt (hc6.heap HT5.out (by simp; exact hne1))
    have m87 := heap_lt H9.out
    have l8 := CAt.load2 H9.out
    have t8 := CAt.store2 HZ9.out ⟨V, numV b.d 16, 0⟩
    have hsd := Lib.hid (CAt.stored HZ9.out ⟨V, numV b.d 16, 0⟩)
    have nr8 := heap_lt HZ9.out
    have nb8 := heap_lt H9.out
    have HXE : Hid (Ext w (w6.setCells (r + 1) 0 (⟨V, numV b.d 16, 0⟩ : Ce).C)) := Lib.hid (Ext.chgTrans HX9.out (chg_setCells (M := [r + 1]) (by simp) _ _ _ (Chg.refl _ _)) (by simp; rw [HR.out]; omega))
    go_wp2_with (go_at_call 112; refine HN.out.mono ?_; rintro _ _ ⟨rfl, rfl⟩)
    have hload := run_loadVar_whole (P := Try.prog) 45 _ hsd.out Try.underlying45 rfl rfl
    refine bodyPost_ret (results_cell1 rfl _ _ _ _ rfl hload) rfl ?_
    exact ⟨by rw [HCV.out, hd, hs]; rw [show P.dz.getD i 0 = b.d from HBE.out.1.symm]; rfl, HXE.out⟩
  · rw [hd] at k3
    rw [hs] at k4
    have hbd := HBD.out
    rw [hd, hs] at hbd
    have HBE := Lib.hid hbd
    clear hbd
    have H9 := H5
    have HZ9 := HZ5
    have HX9 := HX5
    have hz2 := HDW.out
    rw [show P.dz.getD i 0 = b.d from HBE.out.1.symm] at hz2
    have HN := Lib.hid (refNumber_any b.d 16 w5 hz2.1 hz2.2 (by decide) (by decide))
    obtain ⟨w6, hw6⟩ : ∃ w6, w5.setCell ⟨b8, 4, none⟩ (.int .i32 (numV b.d 16)) = w6 := ⟨_, rfl⟩
    have hc6 : Chg [b8] w5 w6 := by rw [← hw6]; exact (Chg.refl _ _).setCell (p := ⟨b8, 4, none⟩) (by simp) _
    have H9 := Lib.hid (show CAt w6 b8 ⟨V, numV b.d 16, 0⟩ by rw [← hw6]; exact CAt.set4 H9.out (numV b.d 16))
    have HZ9 := Lib.hid (HZ9.out.chg hc6 (by have := HB8.out; simp; omega))
    have HX9 := Lib.hid (HX9.out.chgTrans hc6 (by have := HB8.out; simp; rw [HR.out]; omega))
    have k2 : w6.cell? ⟨b7, 2, none⟩ = some (.int .i64 b.s) := cell_of_heap (hc6.heap HT5.out (by simp; exact hne1)) rfl
    have k4 : w6.cell? ⟨r, 4, none⟩ = some (.bool P.sten) := cell_of_heap (hc6.heap HD5.out (by simp; exact hne3)) rfl
    rw [hs] at k4
    have k85 : w6.cell? ⟨b8, 5, none⟩ = some (.int .i64 0) := cell_of_heap H9.out rfl
    have z85 : w6.frozen? ⟨b8, 5, none⟩ = false := free_of_heap H9.out
    have m07 := heap_lt (hc6.heap HD5.out (by simp; exact hne3))
    have m77 := heap_lt (hc6.heap HT5.out (by simp; exact hne1))
    have m87 := heap_lt H9.out
    obtain ⟨w7, hw7⟩ : ∃ w7, w6.setCell ⟨b8, 5, none⟩ (.int .i64 b.s) = w7 := ⟨_, rfl⟩
    have hc7 : Chg [b8] w6 w7 := by rw [← hw7]; exact (Chg.refl _ _).setCell (p := ⟨b8, 5, none⟩) (by simp) _
    have H9 := Lib.hid (show CAt w7 b8 ⟨V, numV b.d 16, b.s⟩ by rw [← hw7]; exact CAt.set5 H9.out b.s)
    have HZ9 := Lib.hid (HZ9.out.chg hc7 (by have := HB8.out; simp; omega))
    have HX9 := Lib.hid (HX9.out.chgTrans hc7 (by have := HB8.out; simp; rw [HR.out]; omega))
    have l8 := CAt.load2 H9.out
    have t8 := CAt.store2 HZ9.out ⟨V, numV b.d 16, b.s⟩
    have hsd := Lib.hid (CAt.stored HZ9.out ⟨V, numV b.d 16, b.s⟩)
    have nr8 := heap_lt HZ9.out
    have nb8 := heap_lt H9.out
    have HXE : Hid (Ext w (w7.setCells (r + 1) 0 (⟨V, numV b.d 16, b.s⟩ : Ce).C)) := Lib.hid (Ext.chgTrans HX9.out (chg_setCells (M := [r + 1]) (by simp) _ _ _ (Chg.refl _ _)) (by simp; rw [HR.out]; omega))
    go_wp2_with (go_at_call 112; refine HN.out.mono ?_; rintro _ _ ⟨rfl, rfl⟩)
    have hload := run_loadVar_whole (P := Try.prog) 45 _ hsd.out Try.underlying45 rfl rfl
    refine bodyPost_ret (results_cell1 rfl _ _ _ _ rfl hload) rfl ?_
    exact ⟨by rw [HCV.out, hd, hs]; rw [show P.dz.getD i 0 = b.d from HBE.out.1.symm]; rw [show P.ms.getD i 0 = b.s from HBE.out.2.symm]; rfl, HXE.out⟩
end
end Go.Proofs.Ytgdcdkajicgliaa
