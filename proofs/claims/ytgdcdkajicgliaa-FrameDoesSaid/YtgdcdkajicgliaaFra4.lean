/- Contract of frame's lay. Conditions: each theorem's own premises. -/
import Derived.Test.YtgdcdkajicgliaaFra3
import Derived.Laws.CopyOwn
namespace Go.Proofs.Ytgdcdkajicgliaa
open Go.RowKit
set_option linter.unusedVariables false
set_option maxRecDepth 100000

/-- A cell's numbers are numbers of 32 bits. -/
def Ce.In (c : Ce) : Prop := (∀ x ∈ c.v.L, -2147483648 ≤ x ∧ x ≤ 2147483647) ∧ -2147483648 ≤ c.dep ∧ c.dep ≤ 2147483647
/-- Planes with a cell laid. -/
def layV (P : Pl) (i : Nat) (c : Ce) : Pl := { P with col := splice P.col (i * szN P.F) (lowB (packX P.F c.v.L) (szN P.F)), dz := if P.dep then P.dz.set i (bitsV c.dep 16) else P.dz, ms := if P.sten then P.ms.set i (c.sten % 256) else P.ms }
theorem lay_fit {P : Pl} (h : P.Ok) {i : Nat} (hi : i < P.W * P.H) : i * szN P.F + szN P.F ≤ P.col.length := by
  have := Nat.mul_le_mul_right (szN P.F) (show i + 1 ≤ P.W * P.H by omega)
  rw [Nat.succ_mul] at this
  rw [h.col]
  exact this
theorem layV_ok {P : Pl} (h : P.Ok) {i : Nat} (hi : i < P.W * P.H) (c : Ce) : (layV P i c).Ok := by
  have hf := lay_fit h hi
  refine ⟨h.w1, h.w2, h.h1, h.h2, h.f1, h.f2, ?_, ?_, ?_, ?_, ?_, ?_⟩
  · show (splice P.col (i * szN P.F) (lowB (packX P.F c.v.L) (szN P.F))).length = _
    rw [length_splice _ _ _ (by rw [lowB_length]; exact hf)]
    exact h.col
  · show (if P.dep then P.dz.set i (bitsV c.dep 16) else P.dz).length = _
    split
    · rw [List.length_set]; exact h.dz
    · exact h.dz
  · show (if P.sten then P.ms.set i (c.sten % 256) else P.ms).length = _
    split
    · rw [List.length_set]; exact h.ms
    · exact h.ms
  · intro z hz
    have hz' : z ∈ splice P.col (i * szN P.F) (lowB (packX P.F c.v.L) (szN P.F)) := hz
    unfold splice at hz'
    rcases List.mem_append.1 hz' with h1 | h1
    · exact h.colw z (List.mem_of_mem_take h1)
    · rcases List.mem_append.1 h1 with h1 | h1
      · exact lowB_wf _ _ z h1
      · exact h.colw z (List.mem_of_mem_drop h1)
  · intro z hz
    have hz' : z ∈ (if P.dep then P.dz.set i (bitsV c.dep 16) else P.dz) := hz
    split at hz'
    · rcases List.mem_or_eq_of_mem_set hz' with h1 | rfl
      · exact h.dzw z h1
      · have := bits_bd c.dep 16 (by decide) (by decide)
        simp [Lit.wf, IntKind.min, IntKind.max, IntKind.bits, IntKind.signed]
        omega
    · exact h.dzw z hz'
  · intro z hz
    have hz' : z ∈ (if P.sten then P.ms.set i (c.sten % 256) else P.ms) := hz
    split at hz'
    · rcases List.mem_or_eq_of_mem_set hz' with h1 | rfl
      · exact h.msw z h1
      · simp [Lit.wf, IntKind.min, IntKind.max, IntKind.bits, IntKind.signed]
        omega
    · exact h.msw z hz'
theorem layV_C {P : Pl} (h : P.Ok) {i : Nat} (hi : i < P.W * P.H) (c : Ce) (B : Pb) : (layV P i c).C B = P.C B := by
  have h2 := layV_ok h hi c
  unfold Pl.C
  rw [h2.col, h2.dz, h2.ms, h.col, h.dz, h.ms]
  rfl
theorem chg_setRow {M : List Nat} {w0 w : World} {g : Nat} (h : Chg M w0 w) (hg : g ∈ M) (cs : Array Value) : Chg M w0 (w.setRow g cs) :=
  ⟨h.os, h.tape, h.output, by simpa [World.setRow] using h.size, fun k hk hm => (setRow_other w g k cs (fun e => hm (e ▸ hg))).trans (h.block k hk hm)⟩
/-- copy into a block that is known whole. -/
theorem wpList_copy_in {P : Program} {w : World} {ops : Array Oper} {rest : List Oper} {o : Oper} {a : Act} {Q : Exit → Act → World → Prop} (hgd : o.guard = none) (d s : Operand) (dT sT : TypeId)
    (ho : o.op = .call { callee := .builtin .copy, args := #[d, s], argTypes := #[dT, sT] }) (elem : TypeId) (hu : P.underlying dT = some (.slice elem)) (hsz : (P.info? elem).map (·.size) = some 1)
    (g off dLen dCap : Nat) (ad : Addr) (sLen sCap : Nat) (hd : a.eval d = .slice (some ⟨g, off, none⟩) dLen dCap) (hs : a.eval s = .slice (some ad) sLen sCap)
    (cur : List Value) (t : TypeId) (hg : w.heap[g]? = some (.cells cur.toArray t (0, 0))) (cs : List Value) (hn : cs.length = Nat.min sLen dLen)
    (hsrc : ∀ j v, cs[j]? = some v → w.cell? (ad.add j) = some v) (hfit : off + cs.length ≤ cur.length) (h1 : ∀ v ∈ cs, v.oneCell' = true)
    (h : ∀ w', Hid (w'.heap[g]? = some (.cells (splice cur off cs).toArray t (0, 0))) → Hid (Chg [g] w w') → wpList P ops Q rest (a.put o.dst (goInt cs.length)) w') : wpList P ops Q (o :: rest) a w :=
  wpList_copy_own hgd d s dT sT ho elem hu hsz g off dLen dCap ad sLen sCap hd hs cur.toArray t hg cs hn hsrc (by simpa using hfit) h1
    (h _ (show _ = _ by simpa [splice] using setRow_heap w g _ _ t _ hg) (chg_setRow (Chg.refl _ _) (by simp) _))
theorem splice_append {α : Type} (l t m : List α) (p : Nat) (h : p + m.length ≤ l.length) : splice (l ++ t) p m = splice l p m ++ t := by
  unfold splice
  rw [List.take_append_of_le_length (by omega), List.drop_append_of_le_length h, List.append_assoc, List.append_assoc]
theorem splice_map {α β : Type} (f : α → β) (L : List α) (n : Nat) (cs : List α) : (splice L n cs).map f = splice (L.map f) n (cs.map f) := by
  unfold splice
  simp [List.map_take, List.map_drop]
section
attribute [local go_sem ↓] Ld_V4 St_V4 Ld_Ce St_Ce
set_option maxHeartbeats 4000000 in
theorem lay_any (B : Pb) (P : Pl) (i : Nat) (c : Ce) (hi : i < P.W * P.H) (hc : c.In) (w : World) (hp : PlAt w B P) : Calls Try.prog 63 #[.pointer (some ⟨B.p, 0, none⟩), .int .i64 i, .agg c.C.toArray] w fun e w' => e = .returned (.tuple #[]) ∧ PlAt w' B (layV P i c) ∧ Chg [B.c, B.d, B.m] w w' := by
  have HP := Lib.hid hp
  have HOK := Lib.hid hp.ok
  have hab : P.W * P.H ≤ 4096 := Nat.mul_le_mul hp.ok.w2 hp.ok.h2
  have hsz := szN_bd P.F
  have hf1 := hp.ok.f1
  have hf2 := hp.ok.f2
  have hcl := hp.ok.col
  have hlen := lay_fit hp.ok hi
  have hkc : P.col.length ≤ B.kc ∧ B.kc ≤ 9223372036854775807 := by
    have h1 := hp.k.1.1
    have h2 := hp.k.1.2
    unfold maxLen at h2
    omega
  have hmax : P.col.length ≤ 16384 := by
    have := Nat.mul_le_mul hab hsz.2
    omega
  have HPK : Hid (∀ w', Calls Try.prog 65 #[.int .i64 (P.F : Int), .agg c.v.C.toArray] w' fun e w'' => ∃ a cap, e = .returned (.tuple #[.slice a (szN P.F) cap, .int .i64 0]) ∧ Ints .u8 w'' (.slice a (szN P.F) cap) (lowB (packX P.F c.v.L) (szN P.F)) ∧ Ext w' w'') := Lib.hid fun w' => pack_any P.F c.v.L w' hf1 (by omega) rfl hc.1
  have HL := Lib.hid (show layV P i c = { P with col := splice P.col (i * szN P.F) (lowB (packX P.F c.v.L) (szN P.F)), dz := if P.dep then P.dz.set i (bitsV c.dep 16) else P.dz, ms := if P.sten then P.ms.set i (c.sten % 256) else P.ms } from rfl)
  have HLO := Lib.hid (layV_ok hp.ok hi c)
  have HLC := Lib.hid (layV_C hp.ok hi c B)
  have HBL := Lib.hid (lowB_length (szN P.F) (packX P.F c.v.L))
  have HBT := Lib.hid (Bits_ok c.dep 16 · hc.2 (by decide) (by decide))
  have hbd := bits_bd c.dep 16 (by decide) (by decide)
  have HC := Lib.hid hc
  generalize layV P i c = LP at *
  generalize lowB (packX P.F c.v.L) (szN P.F) = bs at *
  generalize hS : szN P.F = S at *
  generalize bitsV c.dep 16 = Z at *
  clear hp hcl hab hc
  go_enter Try.func63, Try.ntmps63
  go_upto_region 1 with fail
  obtain ⟨w0, hw0, h0, hx0⟩ : ∃ w0, w.alloc (.cells c.C.toArray 45) = w0 ∧ CAt w0 w.heap.size c ∧ Ext w w0 := ⟨_, rfl, heap_alloc_new _ _, (Ext.refl _).alloc _⟩
  rw [hw0]
  obtain ⟨r, hr⟩ : ∃ r, w.heap.size = r := ⟨_, rfl⟩
  have HR := Lib.hid hr
  rw [hr] at h0
  rw [hr]
  have q2 : w0.cell? ⟨B.p, 2, none⟩ = some (.int .i64 P.F) := cell_of_heap (hx0.heap HP.out.p) rfl
  have n0 := heap_lt (hx0.heap HP.out.p)
  have nr := heap_lt h0
  have lv := CAt.loadV (show CAt w0.drew r c from h0)
  have lv0 := CAt.loadV h0
  have HX0 := Lib.hid hx0
  have H0 := Lib.hid h0
  clear hw0 hx0 h0 hr
  go_region_with (first | (go_at_call 65; refine (HPK.out _).mono ?_; rintro _ w1 ⟨ap, cap, rfl, hip, hx1⟩))
  all_goals
    go_upto_region 2 with fail
    obtain ⟨b, off, rfl, hb, hcell⟩ := hip.pos (by rw [HBL.out]; omega)
    have HX1 : Hid (Ext w w1) := Lib.hid (HX0.out.drew.trans hx1)
    have H1 : Hid (CAt w1 r c) := Lib.hid ((H0.out.ext (Ext.refl _).drew).ext hx1)
    have HCELL := Lib.hid hcell
    have hpl := HP.out.ext HX1.out
    have HPL1 := Lib.hid hpl
    have q3 : w1.cell? ⟨B.p, 3, none⟩ = some (.slice (some ⟨B.c, 0, none⟩) P.col.length B.kc) := cell_of_heap hpl.p rfl
    have n1 := heap_lt hpl.p
    have s1 : IntKind.i64.wrap ((i : Int) * (S : Int)) = ((i * S : Nat) : Int) := by rw [← Int.natCast_mul]; exact IntWalk.i64_in _ (by omega)
    obtain ⟨P0, hP0⟩ : ∃ P0, i * S = P0 := ⟨_, rfl⟩
    have HP0 := Lib.hid hP0
    rw [hP0] at s1
    have hlen2 := hlen
    rw [hP0] at hlen2
    have p0 : (0 : Int) ≤ (P0 : Int) := by omega
    have p1 : (P0 : Int) ≤ ((P.col.length : Nat) : Int) := by omega
    have p2 : ¬ B.kc = P0 := by omega
    clear hx1 hip hcell hpl hP0
    have HSRC : Hid (∀ (j : Nat) (v : Value), (bs.map (Value.int .u8))[j]? = some v → w1.cell? ((⟨b, off, none⟩ : Addr).add j) = some v) := Lib.hid fun j v hv => by
      have hj : j < bs.length := by have := (List.getElem?_eq_some_iff.1 hv).1; simpa using this
      rw [Addr.add_lit, HCELL.out j hj]
      rw [List.getElem?_map, List.getElem?_eq_getElem hj] at hv
      rw [List.getD_eq_getElem?_getD, List.getElem?_eq_getElem hj]
      simpa using hv
    have HB8 : Hid ((bs.map (Value.int .u8)).length = S) := Lib.hid (by rw [List.length_map]; exact HBL.out)
    obtain ⟨X1, hX1⟩ : ∃ X1, X1 = bs.map (Value.int .u8) := ⟨_, rfl⟩
    obtain ⟨X2, hX2⟩ : ∃ X2, X2 = P.col.map (Value.int .u8) ++ B.tc := ⟨_, rfl⟩
    have HX1E := Lib.hid hX1
    have HX2E := Lib.hid hX2
    rw [← hX1] at HSRC HB8
    have HONE : Hid (∀ v ∈ X1, v.oneCell' = true) := Lib.hid (by rw [HX1E.out]; exact int_one)
    have HGC : Hid (w1.heap[B.c]? = some (.cells X2.toArray 5 (0, 0))) := Lib.hid (by rw [HX2E.out]; exact HPL1.out.c)
    have HLX : Hid (P.col.length ≤ X2.length) := Lib.hid (by rw [HX2E.out, List.length_append, List.length_map]; omega)
    have HSP : Hid ((splice P.col (i * S) bs).map (Value.int .u8) ++ B.tc = splice X2 P0 X1) := Lib.hid (by rw [splice_map, HP0.out, ← HX1E.out, HX2E.out, splice_append _ _ _ _ (by rw [HX1E.out, List.length_map, List.length_map, HBL.out]; exact hlen2)])
    have HRL : Hid (w.heap.size = r ∧ B.p < r ∧ B.c < r ∧ B.d < r ∧ B.m < r) := Lib.hid (by have a1 := heap_lt HP.out.p; have a2 := heap_lt HP.out.c; have a3 := heap_lt HP.out.d; have a4 := heap_lt HP.out.m; have := HR.out; omega)
    clear hX1 hX2 HPK
    go_upto_region 3 with (refine wpList_copy_in rfl _ _ 48 48 rfl 5 Try.underlying48 (by kernel_rfl) B.c P0 (P.col.length - P0) (B.kc - P0) ⟨b, off, none⟩ S cap rfl rfl X2 5 HGC.out X1 (by rw [HB8.out]; exact (Nat.min_eq_left (by omega)).symm) HSRC.out (by rw [HB8.out]; exact Nat.le_trans hlen2 HLX.out) HONE.out ?_; intro w2 HG2 HC2)
    have HP2 : Hid (w2.heap[B.p]? = some (.cells (P.C B).toArray 121 (0, 0))) := Lib.hid (HC2.out.heap HPL1.out.p (by have := HP.out.pn; simp; omega))
    have HD2 : Hid (w2.heap[B.d]? = some (.cells (P.dz.map (Value.int .u16) ++ B.td).toArray 134 (0, 0))) := Lib.hid (HC2.out.heap HPL1.out.d (by have := HP.out.pn; simp; omega))
    have HM2 : Hid (w2.heap[B.m]? = some (.cells (P.ms.map (Value.int .u8) ++ B.tm).toArray 5 (0, 0))) := Lib.hid (HC2.out.heap HPL1.out.m (by have := HP.out.pn; simp; omega))
    have HR2 : Hid (CAt w2 r c) := Lib.hid (H1.out.chg HC2.out (by have := HRL.out; simp; omega))
    have HW2 : Hid (Chg [B.c, B.d, B.m] w w2) := Lib.hid ((HX1.out.chg _).trans (HC2.out.mono (by simp)))
    have q6 : w2.cell? ⟨B.p, 6, none⟩ = some (.bool P.dep) := cell_of_heap HP2.out rfl
    have n2 := heap_lt HP2.out
    clear q3 n1 HB8 HSRC HONE HGC
    cases hd : P.dep
    · rw [hd] at q6
      go_upto_region 6 with fail
      have q7 : w2.cell? ⟨B.p, 7, none⟩ = some (.bool P.sten) := cell_of_heap HP2.out rfl
      cases hs : P.sten
      · rw [hs] at q7
        go_wp2_with fail
        go_end0
        exact ⟨rfl, ⟨HLO.out, HP.out.pn, by rw [HLC.out]; exact HP2.out, by rw [HL.out]; show w2.heap[B.c]? = some (.cells ((splice P.col (i * S) bs).map (Value.int .u8) ++ B.tc).toArray 5 (0, 0)); rw [HSP.out]; exact HG2.out, by rw [HL.out]; show w2.heap[B.d]? = some (.cells ((if P.dep then P.dz.set i Z else P.dz).map (Value.int .u16) ++ B.td).toArray 134 (0, 0)); rw [hd]; exact HD2.out, by rw [HL.out]; show w2.heap[B.m]? = some (.cells ((if P.sten then P.ms.set i (c.sten % 256) else P.ms).map (Value.int .u8) ++ B.tm).toArray 5 (0, 0)); rw [hs]; exact HM2.out, by rw [HL.out]; exact HP.out.k⟩, HW2.out⟩
      · rw [hs] at q7
        have hil2 : i < P.ms.length := by rw [HOK.out.ms]; exact hi
        have q5 : w2.cell? ⟨B.p, 5, none⟩ = some (.slice (some ⟨B.m, 0, none⟩) P.ms.length B.km) := cell_of_heap HP2.out rfl
        have q8 : w2.cell? ⟨r, 5, none⟩ = some (.int .i64 c.sten) := cell_of_heap HR2.out rfl
        have e5 : w2.cell? ⟨B.m, i, none⟩ = some (.int .u8 P.ms[i]) := cell_blk HM2.out (List.getElem?_eq_getElem hil2)
        have f5 : w2.frozen? ⟨B.m, i, none⟩ = false := free_of_heap HM2.out
        have nm := heap_lt HM2.out
        have nr5 := heap_lt HR2.out
        have hjj : (i : Int) < ((P.ms.length : Nat) : Int) := by omega
        have hj0 : (0 : Int) ≤ (i : Int) := by omega
        have hw8 : IntKind.u8.wrap c.sten = c.sten % 256 := rfl
        generalize P.ms[i] = y0 at *
        have HCs : Hid (Chg [B.m] w2 (w2.setCell ⟨B.m, i, none⟩ (.int .u8 (c.sten % 256)))) := Lib.hid ((Chg.refl _ _).setCell (p := ⟨B.m, i, none⟩) (by simp) _)
        have HMs := Lib.hid (heap_set_blk (z := c.sten % 256) HM2.out hil2)
        have HPs := Lib.hid (HCs.out.heap HP2.out (by have := HP.out.pn; simp; omega))
        have HGs := Lib.hid (HCs.out.heap HG2.out (by have := HP.out.pn; simp; omega))
        have HDs := Lib.hid (HCs.out.heap HD2.out (by have := HP.out.pn; simp; omega))
        have HWs := Lib.hid (HW2.out.trans (HCs.out.mono (by simp)))
        obtain ⟨Y, hY⟩ : ∃ Y, c.sten % 256 = Y := ⟨_, rfl⟩
        rw [hY] at hw8 HCs HMs HPs HGs HDs HWs
        have HY := Lib.hid hY
        clear hY hil2
        go_upto_region 7 with fail
        go_region_with fail
        all_goals
          obtain ⟨W9, hW9⟩ : ∃ W9, w2.setCell ⟨B.m, i, none⟩ (.int .u8 Y) = W9 := ⟨_, rfl⟩
          rw [hW9] at HCs HMs HPs HGs HDs HWs
          try rw [hW9]
          go_wp2_with fail
          go_end0
          exact ⟨rfl, ⟨HLO.out, HP.out.pn, by rw [HLC.out]; exact HPs.out, by rw [HL.out]; show W9.heap[B.c]? = some (.cells ((splice P.col (i * S) bs).map (Value.int .u8) ++ B.tc).toArray 5 (0, 0)); rw [HSP.out]; exact HGs.out, by rw [HL.out]; show W9.heap[B.d]? = some (.cells ((if P.dep then P.dz.set i Z else P.dz).map (Value.int .u16) ++ B.td).toArray 134 (0, 0)); rw [hd]; exact HDs.out, by rw [HL.out]; show W9.heap[B.m]? = some (.cells ((if P.sten then P.ms.set i (c.sten % 256) else P.ms).map (Value.int .u8) ++ B.tm).toArray 5 (0, 0)); rw [hs]; (rw [if_pos rfl, HY.out]; exact HMs.out), by rw [HL.out]; exact HP.out.k⟩, HWs.out.trans ((Ext.refl _).drew.chg _)⟩
    · rw [hd] at q6
      have hil : i < P.dz.length := by rw [HOK.out.dz]; exact hi
      have q4 : w2.cell? ⟨B.p, 4, none⟩ = some (.slice (some ⟨B.d, 0, none⟩) P.dz.length B.kd) := cell_of_heap HP2.out rfl
      have q9 : w2.cell? ⟨r, 4, none⟩ = some (.int .i32 c.dep) := cell_of_heap HR2.out rfl
      have e4 : w2.cell? ⟨B.d, i, none⟩ = some (.int .u16 P.dz[i]) := cell_blk HD2.out (List.getElem?_eq_getElem hil)
      have f4 : w2.frozen? ⟨B.d, i, none⟩ = false := free_of_heap HD2.out
      have nd := heap_lt HD2.out
      have nr4 := heap_lt HR2.out
      have hii : (i : Int) < ((P.dz.length : Nat) : Int) := by omega
      have hi0 : (0 : Int) ≤ (i : Int) := by omega
      have hw16 : IntKind.u16.wrap Z = Z := by show Z % 65536 = Z; omega
      have HB2 := Lib.hid (HBT.out w2)
      generalize P.dz[i] = z0 at *
      have HCd : Hid (Chg [B.d] w2 (w2.setCell ⟨B.d, i, none⟩ (.int .u16 Z))) := Lib.hid ((Chg.refl _ _).setCell (p := ⟨B.d, i, none⟩) (by simp) _)
      have HD3 := Lib.hid (heap_set_blk (z := Z) HD2.out hil)
      have HP3 := Lib.hid (HCd.out.heap HP2.out (by have := HP.out.pn; simp; omega))
      have HG3 := Lib.hid (HCd.out.heap HG2.out (by have := HP.out.pn; simp; omega))
      have HM3 := Lib.hid (HCd.out.heap HM2.out (by have := HP.out.pn; simp; omega))
      have HR3 : Hid (CAt _ r c) := Lib.hid (HR2.out.chg HCd.out (by have := HRL.out; simp; omega))
      have HW3 := Lib.hid (HW2.out.trans (HCd.out.mono (by simp)))
      clear hil
      go_upto_region 6 with (go_at_call 93; refine HB2.out.mono ?_; rintro _ _ ⟨rfl, rfl⟩)
      obtain ⟨w3, hw3⟩ : ∃ w3, w2.setCell ⟨B.d, i, none⟩ (.int .u16 Z) = w3 := ⟨_, rfl⟩
      rw [hw3] at HCd HD3 HP3 HG3 HM3 HR3 HW3
      rw [hw3]
      have q7 : w3.cell? ⟨B.p, 7, none⟩ = some (.bool P.sten) := cell_of_heap HP3.out rfl
      have n3 := heap_lt HP3.out
      clear hw3 q6 n2 q4 q9 e4 f4 nd nr4
      cases hs : P.sten
      · rw [hs] at q7
        go_wp2_with fail
        go_end0
        exact ⟨rfl, ⟨HLO.out, HP.out.pn, by rw [HLC.out]; exact HP3.out, by rw [HL.out]; show w3.heap[B.c]? = some (.cells ((splice P.col (i * S) bs).map (Value.int .u8) ++ B.tc).toArray 5 (0, 0)); rw [HSP.out]; exact HG3.out, by rw [HL.out]; show w3.heap[B.d]? = some (.cells ((if P.dep then P.dz.set i Z else P.dz).map (Value.int .u16) ++ B.td).toArray 134 (0, 0)); rw [hd]; (rw [if_pos rfl]; exact HD3.out), by rw [HL.out]; show w3.heap[B.m]? = some (.cells ((if P.sten then P.ms.set i (c.sten % 256) else P.ms).map (Value.int .u8) ++ B.tm).toArray 5 (0, 0)); rw [hs]; exact HM3.out, by rw [HL.out]; exact HP.out.k⟩, HW3.out⟩
      · rw [hs] at q7
        have hil2 : i < P.ms.length := by rw [HOK.out.ms]; exact hi
        have q5 : w3.cell? ⟨B.p, 5, none⟩ = some (.slice (some ⟨B.m, 0, none⟩) P.ms.length B.km) := cell_of_heap HP3.out rfl
        have q8 : w3.cell? ⟨r, 5, none⟩ = some (.int .i64 c.sten) := cell_of_heap HR3.out rfl
        have e5 : w3.cell? ⟨B.m, i, none⟩ = some (.int .u8 P.ms[i]) := cell_blk HM3.out (List.getElem?_eq_getElem hil2)
        have f5 : w3.frozen? ⟨B.m, i, none⟩ = false := free_of_heap HM3.out
        have nm := heap_lt HM3.out
        have nr5 := heap_lt HR3.out
        have hjj : (i : Int) < ((P.ms.length : Nat) : Int) := by omega
        have hj0 : (0 : Int) ≤ (i : Int) := by omega
        have hw8 : IntKind.u8.wrap c.sten = c.sten % 256 := rfl
        generalize P.ms[i] = y0 at *
        have HCs : Hid (Chg [B.m] w3 (w3.setCell ⟨B.m, i, none⟩ (.int .u8 (c.sten % 256)))) := Lib.hid ((Chg.refl _ _).setCell (p := ⟨B.m, i, none⟩) (by simp) _)
        have HMs := Lib.hid (heap_set_blk (z := c.sten % 256) HM3.out hil2)
        have HPs := Lib.hid (HCs.out.heap HP3.out (by have := HP.out.pn; simp; omega))
        have HGs := Lib.hid (HCs.out.heap HG3.out (by have := HP.out.pn; simp; omega))
        have HDs := Lib.hid (HCs.out.heap HD3.out (by have := HP.out.pn; simp; omega))
        have HWs := Lib.hid (HW3.out.trans (HCs.out.mono (by simp)))
        obtain ⟨Y, hY⟩ : ∃ Y, c.sten % 256 = Y := ⟨_, rfl⟩
        rw [hY] at hw8 HCs HMs HPs HGs HDs HWs
        have HY := Lib.hid hY
        clear hY hil2
        go_upto_region 7 with fail
        go_region_with fail
        all_goals
          obtain ⟨W9, hW9⟩ : ∃ W9, w3.setCell ⟨B.m, i, none⟩ (.int .u8 Y) = W9 := ⟨_, rfl⟩
          rw [hW9] at HCs HMs HPs HGs HDs HWs
          try rw [hW9]
          go_wp2_with fail
          go_end0
          exact ⟨rfl, ⟨HLO.out, HP.out.pn, by rw [HLC.out]; exact HPs.out, by rw [HL.out]; show W9.heap[B.c]? = some (.cells ((splice P.col (i * S) bs).map (Value.int .u8) ++ B.tc).toArray 5 (0, 0)); rw [HSP.out]; exact HGs.out, by rw [HL.out]; show W9.heap[B.d]? = some (.cells ((if P.dep then P.dz.set i Z else P.dz).map (Value.int .u16) ++ B.td).toArray 134 (0, 0)); rw [hd]; (rw [if_pos rfl]; exact HDs.out), by rw [HL.out]; show W9.heap[B.m]? = some (.cells ((if P.sten then P.ms.set i (c.sten % 256) else P.ms).map (Value.int .u8) ++ B.tm).toArray 5 (0, 0)); rw [hs]; (rw [if_pos rfl, HY.out]; exact HMs.out), by rw [HL.out]; exact HP.out.k⟩, HWs.out.trans ((Ext.refl _).drew.chg _)⟩
end
end Go.Proofs.Ytgdcdkajicgliaa
