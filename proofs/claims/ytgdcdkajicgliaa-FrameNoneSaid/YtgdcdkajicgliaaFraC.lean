/- Contracts of Bytes and Copy: bytes and planes of one's own. Conditions: each theorem's own premises. -/
import Derived.Test.YtgdcdkajicgliaaFraN
import Derived.Test.YtgdcdkajicgliaaOct1
import Derived.Deep.RegionHeld3
namespace Go.Proofs.Ytgdcdkajicgliaa
open Go.RowKit
set_option linter.unusedVariables false
set_option maxRecDepth 100000
set_option linter.unusedSimpArgs false

theorem int_one16 {zs : List Int} : ∀ u ∈ zs.map (Value.int .u16), u.oneCell' = true := by
  intro u hu
  obtain ⟨z, _, rfl⟩ := List.mem_map.1 hu
  rfl
set_option maxHeartbeats 1000000 in
/-- slices.Clone at numbers of 16 bits. -/
theorem clone_u16 (v : Value) (zs : List Int) (w : World) (h : Ints .u16 w v zs) (hb : zs.length ≤ 1000000) :
    Calls Try.prog 67 #[v] w fun e w' => ∃ a cap, e = .returned (.slice a zs.length cap) ∧ w'.ownsRow w.heap.size 134 1 (.slice a zs.length cap) zs.length (zs.map (Value.int .u16)) ∧ Ext w w' := by
  obtain ⟨i0, hi, hz0, hz1, hz2⟩ := info_parts info_u16f
  obtain ⟨a, cap, rfl⟩ : ∃ a cap, v = .slice a zs.length cap := by obtain ⟨⟨_, a, cap, rfl, _⟩, _⟩ := h; exact ⟨a, cap, rfl⟩
  have q22 : ∀ (w : World) (a : Option Addr) (n c n' c' : Nat), (binOp .eql 119 (.slice a n c) (.slice none n' c')).run Try.prog w = .ok (.bool a.isNone) w := fun w a n c n' c' => Lib.run_eql_slice_nil w _ _ a n c n' c' Try.underlying119
  cases a with
  | none =>
    have h0 : cap = 0 := by obtain ⟨⟨_, a, cap, he, _, _, hz, _⟩, _⟩ := h; simp at he; obtain ⟨rfl, rfl⟩ := he; exact hz rfl
    have h1 : zs = [] := by obtain ⟨⟨_, a, cap, he, hn, _, hz, _⟩, _⟩ := h; simp at he; obtain ⟨rfl, rfl⟩ := he; rw [hz rfl] at hn; exact List.eq_nil_of_length_eq_zero (by omega)
    subst h0; subst h1
    go_enter Try.func67, Try.ntmps67
    go_wp2
    go_ret
    exact ⟨none, 0, rfl, World.ownsRow_nil _ _ _ _, Ext.refl _⟩
  | some x =>
    have hnews := SlC.news h.1 rfl (by decide)
    have HN := Lib.hid hnews
    clear hnews
    go_enter Try.func67, Try.ntmps67
    go_wp2_with (at_builtin; refine wpList_append_own _ rfl _ _ 119 rfl w.heap.size 134 i0 (.int .u16 0) 1 2 Try.underlying119 hi hz0 hz1 hz2 rfl (by decide) _ _ _ rfl (World.ownsRow_made w #[] 0 (Nat.le_refl _) (Nat.zero_le _) (by simp)) x zs.length cap (zs.map (Value.int .u16)) rfl ?qc1 ?qc2 ?qc3 ?qc4 ?qc5 ?qc6 ?_)
    case qc1 => simp
    case qc2 =>
      intro j u hj
      exact (Ext.refl w).alloc _ |>.cell (HN.out j u hj)
    case qc3 => exact int_one16
    case qc4 => unfold maxLen; omega
    case qc5 => omega
    case qc6 => simp
    intro v' w1 hown hgrow hnil
    go_wp2
    go_ret
    have hown' : w1.ownsRow w.heap.size 134 1 v' zs.length (zs.map (Value.int .u16)) := by simpa using hown
    obtain ⟨a', c', hv'⟩ := owns_slice hown'
    rw [hv'] at hown' ⊢
    exact ⟨a', c', rfl, hown', ((Ext.refl w).alloc _).grown hgrow (by intro k hk; simp [Value.ownBlock] at hk; omega)⟩
/-- The block of a row of one's own. -/
theorem owns_tail {w : World} {base : Nat} {e : TypeId} {v : Value} {n : Nat} {xs : List Value} (h : w.ownsRow base e 1 v n xs) (h0 : 0 < n) :
    ∃ g cap t, v = .slice (some ⟨g, 0, none⟩) n cap ∧ base ≤ g ∧ w.heap[g]? = some (.cells (xs ++ t).toArray e (0, 0)) ∧ n + t.length = cap ∧ cap ≤ maxLen := by
  obtain ⟨hl, ⟨rfl, rfl⟩ | ⟨g, cap, cur, rfl, hb, hh, hn, hm, hs, ht⟩⟩ := h
  · omega
  · refine ⟨g, cap, cur.toList.drop n, rfl, hb, ?_, ?_, hm⟩
    · rw [hh, ← ht, Nat.mul_one, List.take_append_drop]
    · rw [List.length_drop, Array.length_toList, hs]
      omega
theorem PlAt.ints {w : World} {B : Pb} {P : Pl} (h : PlAt w B P) : Ints .u8 w (.slice (some ⟨B.c, 0, none⟩) P.col.length B.kc) P.col ∧ Ints .u16 w (.slice (some ⟨B.d, 0, none⟩) P.dz.length B.kd) P.dz ∧ Ints .u8 w (.slice (some ⟨B.m, 0, none⟩) P.ms.length B.km) P.ms :=
  ⟨ints_block h.c (by have := h.k.1.1; have := h.ok.col; omega) h.k.1.2 h.ok.colw, ints_block h.d (by have := h.k.2.1.1; have := h.ok.dz; omega) h.k.2.1.2 h.ok.dzw, ints_block h.m (by have := h.k.2.2.1; have := h.ok.ms; omega) h.k.2.2.2 h.ok.msw⟩
theorem Pl.Ok.bd {P : Pl} (h : P.Ok) : P.col.length ≤ 16384 ∧ P.dz.length ≤ 4096 ∧ P.ms.length ≤ 4096 ∧ 0 < P.col.length ∧ 0 < P.dz.length ∧ 0 < P.ms.length := by
  have hab : P.W * P.H ≤ 4096 := Nat.mul_le_mul h.w2 h.h2
  have h1 : 1 ≤ P.W * P.H := Nat.mul_le_mul h.w1 h.h1
  have h2 := Nat.mul_le_mul hab (szN_bd P.F).2
  have h3 := Nat.mul_le_mul h1 (szN_bd P.F).1
  rw [h.col, h.dz, h.ms]
  omega
theorem bytesp_any (B : Pb) (P : Pl) (w : World) (h : PlAt w B P) : Calls Try.prog 20 #[.pointer (some ⟨B.p, 0, none⟩)] w fun e w' => ∃ a cap, e = .returned (.slice a P.col.length cap) ∧ Ints .u8 w' (.slice a P.col.length cap) P.col ∧ Ext w w' := by
  have c3 : w.cell? ⟨B.p, 3, none⟩ = some (.slice (some ⟨B.c, 0, none⟩) P.col.length B.kc) := cell_of_heap h.p rfl
  have n0 := heap_lt h.p
  have HC := Lib.hid (clone_u8 _ P.col w h.ints.1 (by have := h.ok.bd; omega))
  clear h
  go_enter Try.func20, Try.ntmps20
  go_wp2_with (go_at_call 66; refine HC.out.mono ?_; rintro _ w1 ⟨a, cap, rfl, _, hi, hx⟩)
  go_ret
  exact ⟨a, cap, rfl, hi, hx⟩
def PlP (T : TypeId) (v : Value) (s : Sem Value) : Prop := Instr.loadAt T v = s
theorem Ld_Pn (v : Value) : Instr.loadAt 121 v = @Classical.epsilon _ neV (LdP 121 v) := Ld_fold _ _
theorem St_Pn (v u : Value) : Instr.storeAt 121 v u = @Classical.epsilon _ neU (StP 121 v u) := St_fold _ _ _
theorem PlAt.load {w : World} {B : Pb} {P : Pl} (h : PlAt w B P) : (@Classical.epsilon _ neV (LdP 121 (.pointer (some ⟨B.p, 0, none⟩)))).run Try.prog w = .ok (.agg (P.C B).toArray) w :=
  ld_ok _ (range_cells h.p (fun j v hv => by simpa using hv)) Try.underlying121 rfl (by kernel_rfl)
theorem newPn (w : World) (L : List Value) (hl : L.length = 8) (h1 : L.toArray.all (·.oneCell') = true) : ∃ w', (@Classical.epsilon _ neU (StP 121 (.pointer (some ⟨w.heap.size, 0, none⟩)) (.agg L.toArray))).run Try.prog (w.alloc (.cells #[.int .i64 0, .int .i64 0, .int .i64 0, .slice none 0 0, .slice none 0 0, .slice none 0 0, .bool false, .bool false] 121)) = .ok () w' ∧ w'.heap[w.heap.size]? = some (.cells L.toArray 121 (0, 0)) ∧ Ext w w' := by
  have h : (w.alloc (.cells #[.int .i64 0, .int .i64 0, .int .i64 0, .slice none 0 0, .slice none 0 0, .slice none 0 0, .bool false, .bool false] 121)).heap[w.heap.size]? = some (.cells [Value.int .i64 0, .int .i64 0, .int .i64 0, .slice none 0 0, .slice none 0 0, .slice none 0 0, .bool false, .bool false].toArray 121 (0, 0)) := heap_alloc_new _ _
  obtain ⟨h1, h2, h3⟩ := stF_mid 121 h 0 L (by rw [hl]; decide) (by rw [hl]; kernel_rfl) h1
  refine ⟨_, h1, ?_, ((Ext.refl _).alloc _).chgTrans h3 (by simp)⟩
  rw [h2, List.take_zero, List.nil_append, Nat.zero_add, List.drop_eq_nil_of_le (by rw [hl]; decide), List.append_nil]
section
attribute [local go_sem ↓] Ld_Pn St_Pn
set_option maxHeartbeats 4000000 in
theorem copyp_any (B : Pb) (P : Pl) (w : World) (h : PlAt w B P) : Calls Try.prog 18 #[.pointer (some ⟨B.p, 0, none⟩)] w fun e w' => ∃ B2 : Pb, e = .returned (.pointer (some ⟨B2.p, 0, none⟩)) ∧ w.heap.size ≤ B2.p ∧ w.heap.size ≤ B2.c ∧ w.heap.size ≤ B2.d ∧ w.heap.size ≤ B2.m ∧ PlAt w' B2 P ∧ Ext w w' := by
  have HP := Lib.hid h
  have n0 := heap_lt h.p
  have l0 := h.load
  obtain ⟨w1, hst1, h1, hx1⟩ := newPn w (P.C B) rfl (by simp [Pl.C, Value.oneCell'])
  have HIN := Lib.hid h.ints
  have HBD := Lib.hid h.ok.bd
  clear h
  go_enter Try.func18, Try.ntmps18
  go_upto_region 4 with fail
  obtain ⟨r, hr⟩ : ∃ r, w.heap.size = r := ⟨_, rfl⟩
  have HR : Hid (w.heap.size = r ∧ B.p < r) := Lib.hid ⟨hr, by have := heap_lt HP.out.p; omega⟩
  rw [hr] at h1
  rw [hr]
  have HX1 := Lib.hid hx1
  have H1 := Lib.hid h1
  have hp1 := HP.out.ext hx1
  have q3 : w1.cell? ⟨B.p, 3, none⟩ = some (.slice (some ⟨B.c, 0, none⟩) P.col.length B.kc) := cell_of_heap hp1.p rfl
  have q4 : w1.cell? ⟨B.p, 4, none⟩ = some (.slice (some ⟨B.d, 0, none⟩) P.dz.length B.kd) := cell_of_heap hp1.p rfl
  have q5 : w1.cell? ⟨B.p, 5, none⟩ = some (.slice (some ⟨B.m, 0, none⟩) P.ms.length B.km) := cell_of_heap hp1.p rfl
  have n1 := heap_lt hp1.p
  have nr := heap_lt h1
  have b1 : B.p ≠ r := by have := HR.out; omega
  have b2 : r ≠ B.p := by have := HR.out; omega
  clear h1 hx1 hp1 hst1 l0 n0 hr
  go_region_held3 (fun w' => w'.cell? ⟨B.p, 3, none⟩ = some (.slice (some ⟨B.c, 0, none⟩) P.col.length B.kc) ∧ w'.cell? ⟨B.p, 4, none⟩ = some (.slice (some ⟨B.d, 0, none⟩) P.dz.length B.kd) ∧ w'.cell? ⟨B.p, 5, none⟩ = some (.slice (some ⟨B.m, 0, none⟩) P.ms.length B.km)) (go_keep) (first
    | (go_at_call_of 66 (Value.slice (some ⟨B.c, 0, none⟩) P.col.length B.kc); refine (clone_u8 _ P.col _ (HIN.out.1.ext HX1.out.drew) (by have := HBD.out; omega)).mono ?_; rintro _ w2 ⟨a1, k1, rfl, ho1, _, hx2⟩; have g3 := hx2.cell q3; have g4 := hx2.cell q4; have g5 := hx2.cell q5)
    | (go_at_call_of 67 (Value.slice (some ⟨B.d, 0, none⟩) P.dz.length B.kd); refine (clone_u16 _ P.dz _ (HIN.out.2.1.ext (HX1.out.drew.trans hx2)) (by have := HBD.out; omega)).mono ?_; rintro _ w3 ⟨a2, k2, rfl, ho2, hx3⟩; have g3 := hx3.cell g3; have g4 := hx3.cell g4; have g5 := hx3.cell g5)
    | (go_at_call_of 66 (Value.slice (some ⟨B.m, 0, none⟩) P.ms.length B.km); refine (clone_u8 _ P.ms _ (HIN.out.2.2.ext (HX1.out.drew.trans (hx2.trans hx3))) (by have := HBD.out; omega)).mono ?_; rintro _ w4 ⟨a3, k3, rfl, ho3, _, hx4⟩; have g3 := hx4.cell g3; have g4 := hx4.cell g4; have g5 := hx4.cell g5; have H4 := Lib.hid (((Ext.refl w1).drew.trans (hx2.trans (hx3.trans hx4))).heap H1.out); have f3 : w4.frozen? ⟨r, 3, none⟩ = false := free_of_heap H4.out; have f4 : w4.frozen? ⟨r, 4, none⟩ = false := free_of_heap H4.out; have f5 : w4.frozen? ⟨r, 5, none⟩ = false := free_of_heap H4.out; have v3 : w4.cell? ⟨r, 3, none⟩ = some (.slice (some ⟨B.c, 0, none⟩) P.col.length B.kc) := cell_of_heap H4.out rfl; have v4 : w4.cell? ⟨r, 4, none⟩ = some (.slice (some ⟨B.d, 0, none⟩) P.dz.length B.kd) := cell_of_heap H4.out rfl; have v5 : w4.cell? ⟨r, 5, none⟩ = some (.slice (some ⟨B.m, 0, none⟩) P.ms.length B.km) := cell_of_heap H4.out rfl; have n4 := heap_lt H4.out))
  have HO1 := Lib.hid ho1
  have HO2 := Lib.hid ho2
  have HO3 := Lib.hid ho3
  have HXS := Lib.hid (HX1.out.drew.trans (hx2.trans (hx3.trans hx4)))
  have HS2 : Hid (r < w2.heap.size ∧ w2.heap.size ≤ w3.heap.size ∧ w3.heap.size ≤ w4.heap.size ∧ w1.heap.size ≤ w2.heap.size) := Lib.hid (by
    have e1 : w1.drew.heap.size = w1.heap.size := rfl
    have := hx2.size
    have := hx3.size
    have := hx4.size
    have := heap_lt H1.out
    omega)
  have HX2 := Lib.hid hx2
  have HX3 := Lib.hid hx3
  have HX4 := Lib.hid hx4
  clear ho1 ho2 ho3 hx2 hx3 hx4 q3 q4 q5 g3 g4 g5
  go_wp2_with fail
  go_ret
  obtain ⟨c, kc, tc, ec, bc, hc, lc, mc⟩ := owns_tail HO1.out HBD.out.2.2.2.1
  obtain ⟨d, kd, td, ed, bd, hd, ld, md⟩ := owns_tail HO2.out HBD.out.2.2.2.2.1
  obtain ⟨m, km, tm, em, bm, hm, lm, mm⟩ := owns_tail HO3.out HBD.out.2.2.2.2.2
  simp only [Value.slice.injEq] at ec ed em
  obtain ⟨rfl, _, rfl⟩ := ec
  obtain ⟨rfl, _, rfl⟩ := ed
  obtain ⟨rfl, _, rfl⟩ := em
  have hs := HS2.out
  have hr := HR.out
  have hcl := heap_lt hc
  have hdl := heap_lt hd
  have hml := heap_lt hm
  have e1 : w1.drew.heap.size = w1.heap.size := rfl
  have hr1 := heap_lt H1.out
  have g1 := heap_set (k := 3) (u := .slice (some ⟨c, 0, none⟩) P.col.length k1) H4.out
  have g2 := heap_set (k := 4) (u := .slice (some ⟨d, 0, none⟩) P.dz.length k2) g1
  have g3 := heap_set (k := 5) (u := .slice (some ⟨m, 0, none⟩) P.ms.length k3) g2
  have hch : Chg [r] w4 (((w4.setCell ⟨r, 3, none⟩ (.slice (some ⟨c, 0, none⟩) P.col.length k1)).setCell ⟨r, 4, none⟩ (.slice (some ⟨d, 0, none⟩) P.dz.length k2)).setCell ⟨r, 5, none⟩ (.slice (some ⟨m, 0, none⟩) P.ms.length k3)) := (((Chg.refl _ _).setCell (p := ⟨r, 3, none⟩) (by simp) _).setCell (p := ⟨r, 4, none⟩) (by simp) _).setCell (p := ⟨r, 5, none⟩) (by simp) _
  refine ⟨⟨r, c, d, m, tc, td, tm, k1, k2, k3⟩, rfl, show w.heap.size ≤ r by omega, ?_, ?_, ?_, ⟨HP.out.ok, ?_, g3, hch.heap ((HX3.out.trans HX4.out).heap hc) ?_, hch.heap (HX4.out.heap hd) ?_, hch.heap hm ?_, ?_⟩, HXS.out.chgTrans hch ?_⟩
  · show w.heap.size ≤ c
    omega
  · show w.heap.size ≤ d
    omega
  · show w.heap.size ≤ m
    omega
  · show r ≠ c ∧ r ≠ d ∧ r ≠ m ∧ c ≠ d ∧ c ≠ m ∧ d ≠ m
    omega
  · simp; omega
  · simp; omega
  · simp; omega
  · refine ⟨⟨?_, mc⟩, ⟨?_, md⟩, ⟨?_, mm⟩⟩
    · rw [← HP.out.ok.col]; exact lc
    · rw [← HP.out.ok.dz]; exact ld
    · rw [← HP.out.ok.ms]; exact lm
  · simp; omega
end
end Go.Proofs.Ytgdcdkajicgliaa
