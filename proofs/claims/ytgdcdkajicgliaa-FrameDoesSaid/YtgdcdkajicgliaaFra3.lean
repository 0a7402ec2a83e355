/- Contract of frame's cell. Conditions: each theorem's own premises. -/
import Derived.Test.YtgdcdkajicgliaaFra2
import Derived.Test.YtgdcdkajicgliaaOpsEq
import Derived.Deep.RegionHeld3
namespace Go.Proofs.Ytgdcdkajicgliaa
open Go.RowKit
set_option linter.unusedVariables false
set_option maxRecDepth 100000

theorem unp_four (n : Nat) (X : Int) : ∃ a b c d, unpV n X = [a, b, c, d] := by
  have hl : (outU X (chL n) (restL n)).length = 4 := by
    have : ∀ (l : List (Nat × Nat × Nat)) (o : List Int), (outU X l o).length = o.length := by
      intro l
      induction l with
      | nil => intro o; rfl
      | cons c l ih => intro o; exact (ih _).trans (by simp)
    rw [this]
    unfold restL
    split <;> rfl
  unfold unpV
  split
  · exact ⟨_, _, _, _, rfl⟩
  · match outU X (chL n) (restL n), hl with
    | [a, b, c, d], _ => exact ⟨a, b, c, d, rfl⟩
/-- The colour that stands in a word. -/
def unp4 (n : Nat) (X : Int) : V4 := ⟨(unpV n X).getD 0 0, (unpV n X).getD 1 0, (unpV n X).getD 2 0, (unpV n X).getD 3 0⟩
theorem unp4_C (n : Nat) (X : Int) : vecC (unpV n X) = (unp4 n X).C.toArray := by
  obtain ⟨a, b, c, d, h⟩ := unp_four n X
  unfold unp4
  rw [h]
  rfl
theorem cutI {k : IntKind} {w : World} {a : Option Addr} {n cap : Nat} {zs : List Int} (h : Ints k w (.slice a n cap) zs) (l r : Nat) (hl : l ≤ r) (hr : r ≤ n) : Ints k w (.slice (if cap = l then a else a.map (·.add l)) (r - l) (cap - l)) ((zs.drop l).take (r - l)) := by
  obtain ⟨rfl, _⟩ := h.cap
  exact h.cut l r hl hr
/-- The bytes of a cell's colour. -/
def colAt (P : Pl) (i : Nat) : List Int := (P.col.drop (i * szN P.F)).take (szN P.F)
/-- What stands in a cell. -/
def cellV (P : Pl) (i : Nat) : Ce := ⟨unp4 P.F (leN (colAt P i)), if P.dep then numV (P.dz.getD i 0) 16 else 65536, if P.sten then P.ms.getD i 0 else 0⟩
theorem ints_block {k : IntKind} {w : World} {b : Nat} {T : TypeId} {zs : List Int} {t : List Value} {cap : Nat} (h : w.heap[b]? = some (.cells (zs.map (Value.int k) ++ t).toArray T (0, 0))) (hk : zs.length ≤ cap) (hl : cap ≤ maxLen) (hz : ∀ z ∈ zs, (Lit.int k z).wf = true) : Ints k w (.slice (some ⟨b, 0, none⟩) zs.length cap) zs := by
  refine ⟨⟨by simp, _, _, rfl, hk, hl, (by intro h; cases h), fun _ => ⟨b, 0, rfl, heap_lt h, fun j u hu => ?_⟩⟩, hz⟩
  rw [Nat.zero_add]
  obtain ⟨z, hz1, rfl⟩ : ∃ z, zs[j]? = some z ∧ Value.int k z = u := by
    rw [List.getElem?_map] at hu
    exact Option.map_eq_some_iff.1 hu
  exact cell_blk h hz1
theorem u16_of_wf {z : Int} (h : (Lit.int .u16 z).wf = true) : 0 ≤ z ∧ z < 65536 := by
  simp [Lit.wf, IntKind.min, IntKind.max, IntKind.signed, IntKind.bits] at h
  omega
/-- A colour laid into a cell. -/
theorem stV_mid {w : World} {b : Nat} {v : V4} {d s : Int} (h : w.heap[b]? = some (.cells (⟨v, d, s⟩ : Ce).C.toArray 45 (0, 0))) (u : V4) :
    (@Classical.epsilon _ neU (StP 26 (.pointer (some ⟨b, 0, none⟩)) (.agg u.C.toArray))).run Try.prog w = .ok () (w.setCells b 0 u.C) ∧ CAt (w.setCells b 0 u.C) b ⟨u, d, s⟩ ∧ Chg [b] w (w.setCells b 0 u.C) := by
  obtain ⟨h1, h2, h3⟩ := stF_mid 26 h 0 u.C (by simp [Ce.C, V4.C]) (by kernel_rfl) (by simp [V4.C, Value.oneCell'])
  exact ⟨h1, h2, h3⟩
section
attribute [local go_sem ↓] Ld_V4 St_V4 Ld_Ce St_Ce
set_option maxHeartbeats 4000000 in
theorem cell_any (B : Pb) (P : Pl) (i : Nat) (hi : i < P.W * P.H) (w : World) (hp : PlAt w B P) : Calls Try.prog 62 #[.pointer (some ⟨B.p, 0, none⟩), .int .i64 i] w fun e w' => e = .returned (.agg (cellV P i).C.toArray) ∧ Ext w w' := by
  have HP := Lib.hid hp
  have HOK := Lib.hid hp.ok
  have hab : P.W * P.H ≤ 4096 := Nat.mul_le_mul hp.ok.w2 hp.ok.h2
  have hsz := szN_bd P.F
  have hf1 := hp.ok.f1
  have hf2 := hp.ok.f2
  have hcl := hp.ok.col
  have hlen : i * szN P.F + szN P.F ≤ P.col.length := by
    have := Nat.mul_le_mul_right (szN P.F) (show i + 1 ≤ P.W * P.H by omega)
    rw [Nat.succ_mul] at this
    omega
  have hkc : P.col.length ≤ B.kc ∧ B.kc ≤ 9223372036854775807 := by
    have h1 := hp.k.1.1
    have h2 := hp.k.1.2
    unfold maxLen at h2
    omega
  have hmax : P.col.length ≤ 16384 := by
    have := Nat.mul_le_mul hab hsz.2
    omega
  have HI := Lib.hid (ints_block hp.c (cap := B.kc) (by have := hp.k.1.1; have := hp.ok.col; omega) hp.k.1.2 hp.ok.colw)
  have HU := Lib.hid (fun (w' : World) (x' : Ext w w') (v : Value) (hv : Ints .u8 w v (colAt P i)) => unpack_any P.F v (colAt P i) w' hf1 (by omega) (hv.ext x') (by unfold colAt; rw [List.length_take, List.length_drop, Nat.min_eq_left (by omega), szN_V _ hf1 (by omega)]))
  have HS := Lib.hid (fun w => Size_any P.F w)
  rw [szN_V P.F hf1 (by omega)] at HS
  have HCV := Lib.hid (show cellV P i = ⟨unp4 P.F (leN (colAt P i)), if P.dep then numV (P.dz.getD i 0) 16 else 65536, if P.sten then P.ms.getD i 0 else 0⟩ from rfl)
  rw [unp4_C] at HU
  have HCC := Lib.hid (show colAt P i = (P.col.drop (i * szN P.F)).take (szN P.F) from rfl)
  generalize unp4 P.F (leN (colAt P i)) = V at *
  generalize colAt P i = cc at *
  generalize cellV P i = CV at *
  generalize hS : szN P.F = S at *
  have q1 : w.cell? ⟨B.p, 2, none⟩ = some (.int .i64 P.F) := cell_of_heap HP.out.p rfl
  have n1 := heap_lt HP.out.p
  have n2 : B.p < w.heap.size + 1 := by omega
  clear hp hcl hab
  go_enter Try.func62, Try.ntmps62
  go_upto_region 1 with fail
  obtain ⟨w0, hw0, h0, hx0⟩ : ∃ w0, w.alloc (.cells #[.int .i32 0, .int .i32 0, .int .i32 0, .int .i32 0, .int .i32 0, .int .i64 0] 45) = w0 ∧ CAt w0 w.heap.size ceZ ∧ Ext w w0 := ⟨_, rfl, heap_alloc_new _ _, (Ext.refl _).alloc _⟩
  rw [hw0]
  have q1 : w0.cell? ⟨B.p, 2, none⟩ = some (.int .i64 P.F) := cell_of_heap (hx0.heap HP.out.p) rfl
  have n1 := heap_lt (hx0.heap HP.out.p)
  have hs0 := hx0.size
  have hr0 := heap_lt h0
  clear hw0
  go_upto_region 2 with (go_at_call 57; refine (HS.out _).mono ?_; rintro _ w1 ⟨rfl, hx1⟩)
  obtain ⟨w2, hst2, h2, hx2⟩ := newC w1 ⟨zero4, 65536, 0⟩
  have hst2 : (@Classical.epsilon _ neU (StP 45 (.pointer (some ⟨w1.heap.size, 0, none⟩)) (.agg #[.int .i32 0, .int .i32 0, .int .i32 0, .int .i32 0, .int .i32 65536, .int .i64 0]))).run Try.prog (w1.alloc (.cells #[.int .i32 0, .int .i32 0, .int .i32 0, .int .i32 0, .int .i32 0, .int .i64 0] 45)) = .ok () w2 := hst2
  go_upto_region 3 with fail
  have H0 := Lib.hid ((h0.ext hx1).ext hx2)
  have H2 := Lib.hid h2
  have HX2 := Lib.hid ((hx0.trans hx1).trans hx2)
  have q2 : w2.cell? ⟨B.p, 2, none⟩ = some (.int .i64 P.F) := cell_of_heap (HX2.out.heap HP.out.p) rfl
  have q3 : w2.cell? ⟨B.p, 3, none⟩ = some (.slice (some ⟨B.c, 0, none⟩) P.col.length B.kc) := cell_of_heap (HX2.out.heap HP.out.p) rfl
  have n2 := heap_lt (HX2.out.heap HP.out.p)
  have nb := heap_lt h2
  obtain ⟨b1, hb1⟩ : ∃ b1, w1.heap.size = b1 := ⟨_, rfl⟩
  obtain ⟨r, hr⟩ : ∃ r, w.heap.size = r := ⟨_, rfl⟩
  have HB1 := Lib.hid (show r < b1 by rw [← hb1, ← hr]; have := hx1.size; omega)
  have HR := Lib.hid hr
  have s1 : IntKind.i64.wrap ((i : Int) * (S : Int)) = ((i * S : Nat) : Int) := by rw [← Int.natCast_mul]; exact IntWalk.i64_in _ (by omega)
  have s2 : IntKind.i64.wrap (((i * S : Nat) : Int) + (S : Int)) = ((i * S + S : Nat) : Int) := by rw [← Int.natCast_add]; exact IntWalk.i64_in _ (by omega)
  obtain ⟨P0, hP0⟩ : ∃ P0, i * S = P0 := ⟨_, rfl⟩
  obtain ⟨R, hR⟩ : ∃ R, P0 + S = R := ⟨_, rfl⟩
  have HCUT : Hid (Ints .u8 w (.slice (some ⟨B.c, P0, none⟩) S (B.kc - P0)) cc) := by
    have h9 := cutI HI.out P0 (P0 + S) (by omega) (by omega)
    rw [if_neg (by omega), Option.map_some, Addr.add_lit, Nat.add_sub_cancel_left, Nat.zero_add] at h9
    show Ints _ _ _ cc
    rw [HCC.out, hP0]
    exact h9
  rw [hP0] at s1 s2 hlen
  rw [hR] at s2 hlen
  have hRS := Lib.hid (show R - P0 = S by omega)
  have hcP := Lib.hid (show B.kc ≠ P0 by omega)
  have p0 : (0 : Int) ≤ (P0 : Int) := by omega
  have p1 : (P0 : Int) ≤ (R : Int) := by omega
  have p2 : (R : Int) ≤ (B.kc : Int) := by omega
  rw [hb1] at h2 nb H2
  rw [hr] at H0
  rw [hb1, hr]
  clear h2 hx2 hx1 h0 hx0 hst2 hr0 hs0 n1 hP0 hR hb1 hr
  go_region_with (first | (go_at_call 91; rw [if_neg hcP.out, hRS.out]; refine (HU.out _ (HX2.out.drew) _ HCUT.out).mono ?_; rintro _ w9 ⟨rfl, hx9⟩; obtain ⟨st9, h9, c9⟩ := stV_mid (hx9.heap H2.out) V))
  all_goals
    obtain ⟨w10, hw10⟩ : ∃ w10, w9.setCells b1 0 V.C = w10 := ⟨_, rfl⟩
    rw [hw10] at h9 c9
    rw [hw10]
    have HX10 : Hid (Ext w w10) := Lib.hid ((HX2.out.drew.trans hx9).chgTrans c9 (by have := HB1.out; simp; rw [HR.out]; omega))
    have H010 : Hid (CAt w10 r ceZ) := Lib.hid (((H0.out.ext (Ext.refl _).drew).ext hx9).chg c9 (by have := HB1.out; simp; omega))
    have H910 := Lib.hid h9
    have hpl := HP.out.ext HX10.out
    have q6 : w10.cell? ⟨B.p, 6, none⟩ = some (.bool P.dep) := cell_of_heap hpl.p rfl
    have q7 : w10.cell? ⟨B.p, 7, none⟩ = some (.bool P.sten) := cell_of_heap hpl.p rfl
    have q4 : w10.cell? ⟨B.p, 4, none⟩ = some (.slice (some ⟨B.d, 0, none⟩) P.dz.length B.kd) := cell_of_heap hpl.p rfl
    have q5 : w10.cell? ⟨B.p, 5, none⟩ = some (.slice (some ⟨B.m, 0, none⟩) P.ms.length B.km) := cell_of_heap hpl.p rfl
    have n10 := heap_lt hpl.p
    have nb10 := heap_lt h9
    have nr10 := heap_lt H010.out
    clear h9 c9 hx9 hw10 st9
    cases hd : P.dep
    · rw [hd] at q6
      cases hs : P.sten
      · rw [hs] at q7
        have l8 := CAt.load2 H910.out
        have t8 := CAt.store2 H010.out ⟨V, 65536, 0⟩
        have hsd := Lib.hid (CAt.stored H010.out ⟨V, 65536, 0⟩)
        have nr8 := heap_lt H010.out
        have nb8 := heap_lt H910.out
        have HXE : Hid (Ext w (w10.setCells r 0 (⟨V, 65536, 0⟩ : Ce).C)) := Lib.hid (Ext.chgTrans HX10.out (chg_setCells (M := [r]) (by simp) _ _ _ (Chg.refl _ _)) (by simp; rw [HR.out]; exact Nat.le_refl _))
        go_wp2_with fail
        have hload := run_loadVar_whole (P := Try.prog) 45 _ hsd.out Try.underlying45 rfl rfl
        refine bodyPost_ret (results_cell1 rfl _ _ _ _ rfl hload) rfl ?_
        exact ⟨by rw [HCV.out, hd, hs]; rfl, HXE.out⟩
      · rw [hs] at q7
        have hplS := hpl
        have hil2 : i < P.ms.length := by rw [HOK.out.ms]; exact hi
        obtain ⟨y, hy⟩ : ∃ y, P.ms.getD i 0 = y := ⟨_, rfl⟩
        have hym : P.ms[i]? = some y := by rw [← hy, List.getD_eq_getElem?_getD, List.getElem?_eq_getElem hil2]; rfl
        have hyw := HOK.out.msw y (List.mem_of_getElem? hym)
        have hy2 := u8_of_wf hyw
        have e5 : w10.cell? ⟨B.m, i, none⟩ = some (.int .u8 y) := cell_blk hplS.m hym
        have nm := heap_lt hplS.m
        have hjj : (i : Int) < ((P.ms.length : Nat) : Int) := by omega
        have hj0 : (0 : Int) ≤ (i : Int) := by omega
        have hw64 : IntKind.i64.wrap y = y := IntWalk.i64_in _ (by omega)
        have f5 : w10.frozen? ⟨b1, 5, none⟩ = false := free_of_heap H910.out
        have v5 : w10.cell? ⟨b1, 5, none⟩ = some (.int .i64 0) := cell_of_heap H910.out rfl
        have HY := Lib.hid hy
        clear hil2 hy hym hyw hy2
        have H911 := Lib.hid (CAt.set5 H910.out y)
        have H011 := Lib.hid (H010.out.chg ((Chg.refl [b1] w10).setCell (p := ⟨b1, 5, none⟩) (by simp) (.int .i64 y)) (by have := HB1.out; simp; omega))
        have HX11 := Lib.hid (HX10.out.setCell (p := ⟨b1, 5, none⟩) (by have := HB1.out; rw [HR.out]; show r ≤ b1; omega) (.int .i64 y))
        have l8 := CAt.load2 H911.out
        have t8 := CAt.store2 H011.out ⟨V, 65536, y⟩
        have hsd := Lib.hid (CAt.stored H011.out ⟨V, 65536, y⟩)
        have nr8 := heap_lt H011.out
        have nb8 := heap_lt H911.out
        have HXE : Hid (Ext w ((w10.setCell ⟨b1, 5, none⟩ (.int .i64 y)).setCells r 0 (⟨V, 65536, y⟩ : Ce).C)) := Lib.hid (Ext.chgTrans HX11.out (chg_setCells (M := [r]) (by simp) _ _ _ (Chg.refl _ _)) (by simp; rw [HR.out]; exact Nat.le_refl _))
        go_wp2_with fail
        have hload := run_loadVar_whole (P := Try.prog) 45 _ hsd.out Try.underlying45 rfl rfl
        refine bodyPost_ret (results_cell1 rfl _ _ _ _ rfl hload) rfl ?_
        exact ⟨by rw [HCV.out, hd, hs, HY.out]; rfl, HXE.out⟩
    · rw [hd] at q6
      have hil : i < P.dz.length := by rw [HOK.out.dz]; exact hi
      obtain ⟨z, hz⟩ : ∃ z, P.dz.getD i 0 = z := ⟨_, rfl⟩
      have hzm : P.dz[i]? = some z := by rw [← hz, List.getD_eq_getElem?_getD, List.getElem?_eq_getElem hil]; rfl
      have hzw := HOK.out.dzw z (List.mem_of_getElem? hzm)
      have hz2 := u16_of_wf hzw
      have e4 : w10.cell? ⟨B.d, i, none⟩ = some (.int .u16 z) := cell_blk (HP.out.ext HX10.out).d hzm
      have nd := heap_lt (HP.out.ext HX10.out).d
      have hii : (i : Int) < ((P.dz.length : Nat) : Int) := by omega
      have hi0 : (0 : Int) ≤ (i : Int) := by omega
      have hw32 : IntKind.u32.wrap z = z := by show z % 4294967296 = z; omega
      have HN := Lib.hid (Number_ok z 16 w10 hz2.1 (by omega) (by decide) (by decide))
      have f4 : w10.frozen? ⟨b1, 4, none⟩ = false := free_of_heap H910.out
      have v4 : w10.cell? ⟨b1, 4, none⟩ = some (.int .i32 65536) := cell_of_heap H910.out rfl
      have HZ := Lib.hid hz
      clear hil hz hzm hzw hz2
      have H911 := Lib.hid (CAt.set4 H910.out (numV z 16))
      have H011 := Lib.hid (H010.out.chg ((Chg.refl [b1] w10).setCell (p := ⟨b1, 4, none⟩) (by simp) (.int .i32 (numV z 16))) (by have := HB1.out; simp; omega))
      have HX11 := Lib.hid (HX10.out.setCell (p := ⟨b1, 4, none⟩) (by have := HB1.out; rw [HR.out]; show r ≤ b1; omega) (.int .i32 (numV z 16)))
      obtain ⟨D, hD⟩ : ∃ D, numV z 16 = D := ⟨_, rfl⟩
      rw [hD] at H911 H011 HX11 HN
      have HD := Lib.hid hD
      clear hD
      go_upto_region 6 with (go_at_call 92; refine HN.out.mono ?_; rintro _ _ ⟨rfl, rfl⟩)
      obtain ⟨w11, hw11⟩ : ∃ w11, w10.setCell ⟨b1, 4, none⟩ (.int .i32 D) = w11 := ⟨_, rfl⟩
      rw [hw11] at H911 H011 HX11
      rw [hw11]
      have hpl11 := HP.out.ext HX11.out
      have q7 : w11.cell? ⟨B.p, 7, none⟩ = some (.bool P.sten) := cell_of_heap hpl11.p rfl
      have q5 : w11.cell? ⟨B.p, 5, none⟩ = some (.slice (some ⟨B.m, 0, none⟩) P.ms.length B.km) := cell_of_heap hpl11.p rfl
      have n11 := heap_lt hpl11.p
      clear hw11 e4 f4 v4 n10 nb10 nr10 nd
      cases hs : P.sten
      · rw [hs] at q7
        have l8 := CAt.load2 H911.out
        have t8 := CAt.store2 H011.out ⟨V, D, 0⟩
        have hsd := Lib.hid (CAt.stored H011.out ⟨V, D, 0⟩)
        have nr8 := heap_lt H011.out
        have nb8 := heap_lt H911.out
        have HXE : Hid (Ext w (w11.setCells r 0 (⟨V, D, 0⟩ : Ce).C)) := Lib.hid (Ext.chgTrans HX11.out (chg_setCells (M := [r]) (by simp) _ _ _ (Chg.refl _ _)) (by simp; rw [HR.out]; exact Nat.le_refl _))
        go_wp2_with fail
        have hload := run_loadVar_whole (P := Try.prog) 45 _ hsd.out Try.underlying45 rfl rfl
        refine bodyPost_ret (results_cell1 rfl _ _ _ _ rfl hload) rfl ?_
        exact ⟨by rw [HCV.out, hd, hs, HZ.out, ← HD.out]; rfl, HXE.out⟩
      · rw [hs] at q7
        have hplS := hpl11
        have hil2 : i < P.ms.length := by rw [HOK.out.ms]; exact hi
        obtain ⟨y, hy⟩ : ∃ y, P.ms.getD i 0 = y := ⟨_, rfl⟩
        have hym : P.ms[i]? = some y := by rw [← hy, List.getD_eq_getElem?_getD, List.getElem?_eq_getElem hil2]; rfl
        have hyw := HOK.out.msw y (List.mem_of_getElem? hym)
        have hy2 := u8_of_wf hyw
        have e5 : w11.cell? ⟨B.m, i, none⟩ = some (.int .u8 y) := cell_blk hplS.m hym
        have nm := heap_lt hplS.m
        have hjj : (i : Int) < ((P.ms.length : Nat) : Int) := by omega
        have hj0 : (0 : Int) ≤ (i : Int) := by omega
        have hw64 : IntKind.i64.wrap y = y := IntWalk.i64_in _ (by omega)
        have f5 : w11.frozen? ⟨b1, 5, none⟩ = false := free_of_heap H911.out
        have v5 : w11.cell? ⟨b1, 5, none⟩ = some (.int .i64 0) := cell_of_heap H911.out rfl
        have HY := Lib.hid hy
        clear hil2 hy hym hyw hy2
        have H912 := Lib.hid (CAt.set5 H911.out y)
        have H012 := Lib.hid (H011.out.chg ((Chg.refl [b1] w11).setCell (p := ⟨b1, 5, none⟩) (by simp) (.int .i64 y)) (by have := HB1.out; simp; omega))
        have HX12 := Lib.hid (HX11.out.setCell (p := ⟨b1, 5, none⟩) (by have := HB1.out; rw [HR.out]; show r ≤ b1; omega) (.int .i64 y))
        have l8 := CAt.load2 H912.out
        have t8 := CAt.store2 H012.out ⟨V, D, y⟩
        have hsd := Lib.hid (CAt.stored H012.out ⟨V, D, y⟩)
        have nr8 := heap_lt H012.out
        have nb8 := heap_lt H912.out
        have HXE : Hid (Ext w ((w11.setCell ⟨b1, 5, none⟩ (.int .i64 y)).setCells r 0 (⟨V, D, y⟩ : Ce).C)) := Lib.hid (Ext.chgTrans HX12.out (chg_setCells (M := [r]) (by simp) _ _ _ (Chg.refl _ _)) (by simp; rw [HR.out]; exact Nat.le_refl _))
        go_wp2_with fail
        have hload := run_loadVar_whole (P := Try.prog) 45 _ hsd.out Try.underlying45 rfl rfl
        refine bodyPost_ret (results_cell1 rfl _ _ _ _ rfl hload) rfl ?_
        exact ⟨by rw [HCV.out, hd, hs, HZ.out, HY.out, ← HD.out]; rfl, HXE.out⟩
end
end Go.Proofs.Ytgdcdkajicgliaa
