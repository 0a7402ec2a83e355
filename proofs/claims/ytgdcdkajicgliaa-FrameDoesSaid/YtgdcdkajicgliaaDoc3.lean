/- The document's Lay. Conditions: each theorem's own premises. -/
import Derived.Test.YtgdcdkajicgliaaDoc2
import Derived.Laws.OwnMore
import Derived.Deep.DeepCutAuto
namespace Go.Proofs.Ytgdcdkajicgliaa
open Go.RowKit
set_option linter.unusedVariables false
set_option linter.unusedSimpArgs false
set_option maxRecDepth 100000

def btz : Bt := ⟨.slice none 0 0, 0, 0⟩
theorem btC_len (L : List Bt) : (btC L).length = L.length * 3 := by
  unfold btC
  induction L with
  | nil => rfl
  | cons b L ih => rw [List.flatMap_cons, List.length_append, ih, List.length_cons, Nat.succ_mul, Nat.add_comm]; rfl
theorem btC_set : ∀ (M : List Bt) (i : Nat) (b : Bt), i < M.length → (btC M).take (i * 3) ++ b.C ++ (btC M).drop (i * 3 + b.C.length) = btC (M.set i b)
  | [], i, b, h => absurd h (Nat.not_lt_zero _)
  | m :: M, 0, b, _ => by
    show [] ++ b.C ++ (m.C ++ btC M).drop 3 = b.C ++ btC M
    rw [List.nil_append, show (m.C ++ btC M).drop 3 = btC M from rfl]
  | m :: M, i + 1, b, h => by
    have ih := btC_set M i b (by simpa using h)
    have e1 : (btC (m :: M)).take ((i + 1) * 3) = m.C ++ (btC M).take (i * 3) := by
      show (m.C ++ btC M).take ((i + 1) * 3) = _
      rw [List.take_append, List.take_of_length_le (by show 3 ≤ _; omega)]
      congr 2
      show (i + 1) * 3 - 3 = _
      omega
    have e2 : (btC (m :: M)).drop ((i + 1) * 3 + b.C.length) = (btC M).drop (i * 3 + b.C.length) := by
      show (m.C ++ btC M).drop ((i + 1) * 3 + 3) = (btC M).drop (i * 3 + 3)
      rw [List.drop_append, List.drop_of_length_le (by show 3 ≤ _; omega), List.nil_append]
      congr 1
      show (i + 1) * 3 + 3 - 3 = _
      omega
    rw [e1, e2, List.append_assoc, List.append_assoc, ← List.append_assoc _ b.C, ih]
    rfl
theorem madeBt (n : Nat) : (madeCells #[Value.slice none 0 0, .int .u32 0, .int .i64 0] (n * 3)).toList = btC (List.replicate n btz) := by
  refine List.ext_getElem? fun i => ?_
  by_cases hi : i < n * 3
  · have h1 : (madeCells #[Value.slice none 0 0, .int .u32 0, .int .i64 0] (n * 3)).toList[i]? = some (#[Value.slice none 0 0, .int .u32 0, .int .i64 0][i % 3]!) := by
      simp [madeCells, hi]
    have h2 := btC_at (List.replicate n btz) (i / 3) btz (by rw [List.getElem?_replicate, if_pos (by omega)]) (i % 3) (Nat.mod_lt _ (by decide))
    rw [show i / 3 * 3 + i % 3 = i by omega] at h2
    rw [h1, h2]
    have h3 : i % 3 = 0 ∨ i % 3 = 1 ∨ i % 3 = 2 := by omega
    rcases h3 with h | h | h <;> rw [h] <;> rfl
  · rw [List.getElem?_eq_none (by simp [madeCells]; omega), List.getElem?_eq_none (by rw [btC_len, List.length_replicate]; omega)]
/-- The first i cells' bits are copied. -/
def cpL (L : List Bt) (i : Nat) : List Bt := L.take i ++ List.replicate (L.length - i) btz
theorem cpL_len (L : List Bt) {i : Nat} (h : i ≤ L.length) : (cpL L i).length = L.length := by unfold cpL; rw [List.length_append, List.length_take, List.length_replicate]; omega
theorem cpL_set {L : List Bt} {i : Nat} {b : Bt} (h : L[i]? = some b) : (cpL L i).set i b = cpL L (i + 1) := by
  have hi := (List.getElem?_eq_some_iff.1 h).1
  have hl : (L.take i).length = i := by rw [List.length_take]; omega
  unfold cpL
  rw [List.set_append_right _ _ (by omega), hl, Nat.sub_self, List.take_add_one, h, List.append_assoc]
  congr 1
  rw [show L.length - i = (L.length - (i + 1)) + 1 by omega, List.replicate_succ]
  rfl
theorem cpL_full (L : List Bt) : cpL L L.length = L := by unfold cpL; rw [List.take_length, Nat.sub_self]; simp
theorem info_bt : (Try.prog.info? 140).map (fun i => (i.zero, i.size, i.bytes)) = some (some (.agg #[.slice none 0 0, .int .u32 0, .int .i64 0]), 3, 40) := by kernel_rfl
/-- Bits are stored into a block of bits. -/
theorem bt_put {w : World} {m : Nat} {M : List Bt} (h : w.heap[m]? = some (.cells (btC M).toArray 140 (0, 0))) {i : Nat} (hi : i < M.length) (b : Bt) (hb : b.c.oneCell' = true) :
    (@Classical.epsilon _ neG (StF 140 (.pointer (some ⟨m, i * 3, none⟩)) (.agg b.C.toArray))).run Try.prog w = .ok () (w.setCells m (i * 3) b.C) ∧ (w.setCells m (i * 3) b.C).heap[m]? = some (.cells (btC (M.set i b)).toArray 140 (0, 0)) ∧ Chg [m] w (w.setCells m (i * 3) b.C) := by
  have hm : (i + 1) * 3 ≤ M.length * 3 := Nat.mul_le_mul_right 3 hi
  obtain ⟨h1, h2, h3⟩ := stF_mid 140 h (i * 3) b.C (by rw [btC_len]; show i * 3 + 3 ≤ _; omega) (by kernel_rfl) (by simpa [Bt.C, Value.oneCell'] using hb)
  rw [btC_set M i b hi] at h2
  exact ⟨h1, h2, h3⟩
/-- A whole block of bits, as a slice. -/
theorem bt_slice {w : World} {m : Nat} {M : List Bt} (h : w.heap[m]? = some (.cells (btC M).toArray 140 (0, 0))) (hl : M.length ≤ maxLen) : SlC w (.slice (some ⟨m, 0, none⟩) M.length M.length) 3 M.length (btC M) :=
  ⟨btC_len M, _, _, rfl, Nat.le_refl _, hl, (by intro h; cases h), fun _ => ⟨m, 0, rfl, heap_lt h, fun j u hu => cell_of_heap h (by rw [Nat.zero_add, List.getElem?_toArray]; exact hu)⟩⟩
/-- The bits that Lay makes. -/
def newB (P : Pl) (cv : Value) (c : Ce) : Bt := ⟨cv, if P.dep then bitsV c.dep 16 else 0, if P.sten then c.sten else 0⟩
theorem DAt.lay {G : Nat → Prop} {w w' : World} {v : Value} {P : Pl} {L : List Bt} (h : DAt G w v P L) (x : Ext w w') {k : Nat} (hk : k < P.W * P.H) {c : Ce} (hs : 0 ≤ c.sten ∧ c.sten ≤ 255) {m : Nat} {cv : Value} (hm : G m) (hh : w'.heap[m]? = some (.cells (btC (L.set k (newB P cv c))).toArray 140 (0, 0)))
    (hc : Ints .u8 w' cv (lowB (packX P.F c.v.L) (szN P.F))) (hcb : ∀ b, cv.ownBlock = some b → G b) : DAt G w' (.slice (some ⟨m, 0, none⟩) (P.W * P.H) (P.W * P.H)) (layV P k c) (L.set k (newB P cv c)) := by
  have hl : (L.set k (newB P cv c)).length = P.W * P.H := by rw [List.length_set]; exact h.l
  have hwh := Nat.mul_le_mul h.ok.w2 h.ok.h2
  have hat : ∀ i b, (L.set k (newB P cv c))[i]? = some b → i < P.W * P.H ∧ ((i = k ∧ b = newB P cv c) ∨ (i ≠ k ∧ L[i]? = some b)) := fun i b hb => by
    have hi := (List.getElem?_eq_some_iff.1 hb).1
    refine ⟨by omega, ?_⟩
    rw [List.getElem?_set] at hb
    split at hb
    · rename_i e
      split at hb
      · exact .inl ⟨e.symm, (Option.some.inj hb).symm⟩
      · cases hb
    · rename_i e
      exact .inr ⟨fun h => e h.symm, hb⟩
  refine ⟨layV_ok h.ok hk c, hl, ?_, fun b hb => by simp [Value.ownBlock] at hb; exact hb ▸ hm, fun i b hb => ?_, fun i b hb => ?_, fun i b hb => ?_⟩
  · have := bt_slice hh (by rw [hl]; unfold maxLen; omega)
    rw [hl] at this ⊢
    exact this
  · obtain ⟨hi, h2 | h2⟩ := hat i b hb
    · obtain ⟨rfl, rfl⟩ := h2
      rw [colAt_lay h.ok hk hk, if_pos rfl]
      exact hc
    · rw [colAt_lay h.ok hk hi, if_neg h2.1]
      exact (h.c i b h2.2).ext x
  · obtain ⟨hi, h2 | h2⟩ := hat i b hb
    · obtain ⟨rfl, rfl⟩ := h2
      exact hcb
    · exact h.cb i b h2.2
  · obtain ⟨hi, h2 | h2⟩ := hat i b hb
    · obtain ⟨rfl, rfl⟩ := h2
      have hd := h.ok.dz
      have hms := h.ok.ms
      show (if P.dep then bitsV c.dep 16 else 0) = (if P.dep then (if P.dep then P.dz.set i (bitsV c.dep 16) else P.dz).getD i 0 else 0) ∧ (if P.sten then c.sten else 0) = (if P.sten then (if P.sten then P.ms.set i (c.sten % 256) else P.ms).getD i 0 else 0)
      constructor
      · cases P.dep
        · rfl
        · simp only [if_true]
          rw [List.getD_eq_getElem?_getD, List.getElem?_set_self (by omega)]
          rfl
      · cases P.sten
        · rfl
        · simp only [if_true]
          rw [List.getD_eq_getElem?_getD, List.getElem?_set_self (by omega)]
          show c.sten = c.sten % 256
          omega
    · obtain ⟨e1, e2⟩ := h.d i b h2.2
      show b.d = (if P.dep then (if P.dep then P.dz.set k (bitsV c.dep 16) else P.dz).getD i 0 else 0) ∧ b.s = (if P.sten then (if P.sten then P.ms.set k (c.sten % 256) else P.ms).getD i 0 else 0)
      rw [e1, e2]
      have hne : k ≠ i := fun e => h2.1 e.symm
      constructor
      · cases P.dep
        · rfl
        · simp only [if_true]
          rw [List.getD_eq_getElem?_getD, List.getD_eq_getElem?_getD, List.getElem?_set_ne hne]
      · cases P.sten
        · rfl
        · simp only [if_true]
          rw [List.getD_eq_getElem?_getD, List.getD_eq_getElem?_getD, List.getElem?_set_ne hne]
section
attribute [local go_sem ↓] Ld_Bt St_Bt Ld_Ce St_Ce Ld_V4 Ld_Dp St_Dp
set_option maxHeartbeats 8000000 in
theorem dlay_any (G : Nat → Prop) (P : Pl) (v : Value) (L : List Bt) (x y : Nat) (c : Ce) (hx : x < P.W) (hy : y < P.H) (hci : c.In) (hcs : 0 ≤ c.sten ∧ c.sten ≤ 255) (w : World) (h : DAt G w v P L) (hG : ∀ k, w.heap.size ≤ k → G k) : Calls Try.prog 33 #[.agg (P.D v).toArray, .int .i64 x, .int .i64 y, .agg c.C.toArray] w fun e w' => ∃ v' L', e = .returned (.agg ((layV P (y * P.W + x) c).D v').toArray) ∧ DAt G w' v' (layV P (y * P.W + x) c) L' ∧ Ext w w' := by
  have hi := place_lt hx hy
  obtain ⟨k, hke⟩ : ∃ k, y * P.W + x = k := ⟨_, rfl⟩
  rw [hke] at hi ⊢
  have hw := h.ok.w2
  have hh := h.ok.h2
  have hwh := Nat.mul_le_mul hw hh
  have s1 : IntKind.i64.wrap ((y : Int) * (P.W : Int)) = ((y * P.W : Nat) : Int) := by
    have := Nat.mul_le_mul (show y ≤ 64 by omega) hw
    rw [← Int.natCast_mul]; exact IntWalk.i64_in _ (by omega)
  have s2 : IntKind.i64.wrap (((y * P.W : Nat) : Int) + (x : Int)) = ((k : Nat) : Int) := by rw [← Int.natCast_add, hke]; exact IntWalk.i64_in _ (by omega)
  obtain ⟨i0, hi0, hz0, hz1, hz2⟩ := info_parts info_bt
  obtain ⟨_, va, vcap, rfl, hn1, hn2, _, _⟩ := h.r
  have hll : L.length = P.W * P.H := h.l
  have H := Lib.hid h
  have HI := Lib.hid hi
  have HCS := Lib.hid hcs
  have HBS := Lib.hid hG
  have HLB : Hid (0 < L.length ∧ L.length ≤ 4096) := Lib.hid (by rw [hll]; omega)
  have HPK := Lib.hid (fun w => refpk_any P.F c.v w h.ok.f1 h.ok.f2 hci.1)
  have HBI := Lib.hid (fun w => refBits_any c.dep 16 w hci.2 (by decide) (by decide))
  generalize y * P.W = yw at *
  obtain ⟨w3, hw3, h3a, h3b, h3c, hx3⟩ := heap3x w (.cells (P.D (.slice va L.length vcap)).toArray 76) (.cells c.C.toArray 45) (.cells #[.int .i64 0, .int .i64 0, .int .i64 0, .bool false, .bool false, .slice none 0 0] 76)
  obtain ⟨r, hr⟩ : ∃ r, w.heap.size = r := ⟨_, rfl⟩
  have HR := Lib.hid hr
  have HW3 := Lib.hid hw3
  rw [hr] at h3a h3b h3c
  have HP3 := Lib.hid h3a
  have HC3 : Hid (CAt w3 (r + 1) c) := Lib.hid h3b
  have HZ3 := Lib.hid h3c
  have HX3 := Lib.hid hx3
  have c2 : w3.cell? ⟨r, 2, none⟩ = some (.int .i64 P.F) := cell_of_heap h3a rfl
  have lv : (@Classical.epsilon _ neV (LdP 26 (.pointer (some ⟨r + 1, 0, none⟩)))).run Try.prog w3 = .ok (.agg c.v.C.toArray) w3 := CAt.loadV HC3.out
  have n0 := heap_lt h3a
  have n1 := heap_lt h3b
  clear h hw hh hwh hi hcs hG hci hx3 h3a h3b h3c hw3 hr hn1 hn2 hll hke
  go_enter Try.func33, Try.ntmps33
  go_upto_region 1 with fail
  rw [HW3.out, HR.out]
  go_upto_region 2 with (go_at_call 71; refine (HPK.out _).mono ?_; rintro _ w4 ⟨pa, pc, rfl, hpi, hpb, hx4⟩; obtain ⟨w5, hst5, h5, hx5⟩ := newBt w4 ⟨.slice pa (szN P.F) pc, 0, 0⟩ (by cases pa <;> rfl); have hst5 : (@Classical.epsilon _ neG (StF 140 (.pointer (some ⟨w4.heap.size, 0, none⟩)) (.agg #[.slice pa (szN P.F) pc, .int .u32 0, .int .i64 0]))).run Try.prog (w4.alloc (.cells #[.slice none 0 0, .int .u32 0, .int .i64 0] 140)) = .ok () w5 := hst5)
  obtain ⟨b9, hb9⟩ : ∃ b9, w4.heap.size = b9 := ⟨_, rfl⟩
  rw [hb9] at h5
  rw [hb9]
  have HB9 : Hid (r + 1 + 1 < b9 ∧ b9 < w5.heap.size) := Lib.hid ⟨by have := heap_lt HZ3.out; have := hx4.size; omega, heap_lt h5⟩
  have hx35 := hx4.trans hx5
  have H5 := Lib.hid h5
  have HX5 := Lib.hid (HX3.out.trans hx35)
  have HP5 := Lib.hid (hx35.heap HP3.out)
  have HC5 := Lib.hid (HC3.out.ext hx35)
  have HZ5 := Lib.hid (hx35.heap HZ3.out)
  have HPI := Lib.hid (hpi.ext hx5)
  have HPL : Hid (∀ b, (Value.slice pa (szN P.F) pc).ownBlock = some b → 0 < (lowB (packX P.F c.v.L) (szN P.F)).length → b ≠ b9) := Lib.hid (fun b hb h0 => by have := hpi.1.lt hb h0; omega)
  have HPB := Lib.hid (fun k hk => by have h1 := hpb k hk; have h2 := HX3.out.size; exact HBS.out k (by omega))
  have HPG : Hid (∀ b, (Value.slice pa (szN P.F) pc).ownBlock = some b → r + 1 + 1 < b) := Lib.hid (fun b hb => by have h1 := hpb b hb; have := heap_lt HZ3.out; omega)
  obtain ⟨cv, hcv⟩ : ∃ cv, Value.slice pa (szN P.F) pc = cv := ⟨_, rfl⟩
  rw [hcv] at HPI HPB H5 HPL HPG
  rw [hcv]
  have HONE := Lib.hid (bt_one HPI.out)
  have c3 : w5.cell? ⟨r, 3, none⟩ = some (.bool P.dep) := cell_of_heap HP5.out rfl
  have c4 : w5.cell? ⟨r + 1, 4, none⟩ = some (.int .i32 c.dep) := cell_of_heap HC5.out rfl
  have e1 : w5.cell? ⟨b9, 1, none⟩ = some (.int .u32 0) := cell_of_heap H5.out rfl
  have f1 : w5.frozen? ⟨b9, 1, none⟩ = false := free_of_heap H5.out
  have n0 := heap_lt HP5.out
  have n1 := heap_lt HC5.out
  have n9 := heap_lt H5.out
  clear hpi hpb hx4 hx5 hx35 h5 hst5 hb9 hcv c2 lv HP3 HC3 HZ3 HX3
  go_upto_if 19 with fail
  go_cut [] (fun wc => Hid (BtB wc b9 ⟨cv, if P.dep then bitsV c.dep 16 else 0, 0⟩ ∧ Chg [b9] w5 wc))
  case first =>
    cases hd : P.dep
    · go_wp2_with fail
      go_meet
      exact Lib.hid ⟨by rw [hd]; exact H5.out, Chg.refl _ _⟩
    · go_wp2_with (go_at_call 72; refine (HBI.out _).mono ?_; rintro _ _ ⟨rfl, rfl⟩)
      go_meet
      exact Lib.hid ⟨by rw [hd]; exact heap_set (k := 1) (u := .int .u32 (bitsV c.dep 16)) H5.out, (Chg.refl _ _).setCell (p := ⟨b9, 1, none⟩) (by simp) _⟩
  case rest =>
    rename World => w6
    have HU := hcut
    clear hcut c3 c4 e1 f1 n0 n1 n9
    have HX6 := Lib.hid (HX5.out.chgTrans HU.out.2 (by have := HB9.out; have := HR.out; simp; omega))
    have HP6 := Lib.hid (HU.out.2.heap HP5.out (by have := HB9.out; simp; omega))
    have HC6 := Lib.hid (HC5.out.chg HU.out.2 (by have := HB9.out; simp; omega))
    have HZ6 := Lib.hid (HU.out.2.heap HZ5.out (by have := HB9.out; simp; omega))
    have c4 : w6.cell? ⟨r, 4, none⟩ = some (.bool P.sten) := cell_of_heap HP6.out rfl
    have c5 : w6.cell? ⟨r + 1, 5, none⟩ = some (.int .i64 c.sten) := cell_of_heap HC6.out rfl
    have e2 : w6.cell? ⟨b9, 2, none⟩ = some (.int .i64 0) := cell_of_heap HU.out.1 rfl
    have f2 : w6.frozen? ⟨b9, 2, none⟩ = false := free_of_heap HU.out.1
    have n0 := heap_lt HP6.out
    have n1 := heap_lt HC6.out
    have n9 := heap_lt HU.out.1
    go_upto_if 25 with fail
    go_cut [] (fun wd => Hid (BtB wd b9 (newB P cv c) ∧ Chg [b9] w6 wd))
    case first =>
      cases hd : P.sten
      · go_wp2_with fail
        go_meet
        exact Lib.hid ⟨by unfold newB; rw [hd]; exact HU.out.1, Chg.refl _ _⟩
      · go_wp2_with fail
        go_meet
        exact Lib.hid ⟨by unfold newB; rw [hd]; exact heap_set (k := 2) (u := .int .i64 c.sten) HU.out.1, (Chg.refl _ _).setCell (p := ⟨b9, 2, none⟩) (by simp) _⟩
    case rest =>
      rename World => w7
      have HV := hcut
      clear hcut c4 c5 e2 f2 n0 n1 n9 HC5 HC6 HP5 HZ5
      have HX7 := Lib.hid (HX6.out.chgTrans HV.out.2 (by have := HB9.out; have := HR.out; simp; omega))
      have HP7 := Lib.hid (HV.out.2.heap HP6.out (by have := HB9.out; simp; omega))
      have HZ7 := Lib.hid (HV.out.2.heap HZ6.out (by have := HB9.out; simp; omega))
      have HPI7 := Lib.hid ((HPI.out.chg HU.out.2 (fun b hb h0 => by simp; exact HPL.out b hb h0)).chg HV.out.2 (fun b hb h0 => by simp; exact HPL.out b hb h0))
      have c5 : w7.cell? ⟨r, 5, none⟩ = some (.slice va L.length vcap) := cell_of_heap HP7.out rfl
      have n0 := heap_lt HP7.out
      have hl1 : (L.length : Int) ≤ 4096 := by have := HLB.out; omega
      have hl0 : (0 : Int) < (L.length : Int) := by have := HLB.out; omega
      have hb2 : i0.bytes * L.length ≤ 281474976710656 := by rw [hz2]; have := HLB.out; omega
      have hb3 : L.length ≤ maxLen := by unfold maxLen; have := HLB.out; omega
      go_upto_region 7 with (at_make; refine wpList_make_full _ rfl _ _ 74 rfl w7.heap.size 140 i0 (.agg #[.slice none 0 0, .int .u32 0, .int .i64 0]) 3 Try.underlying74 hi0 hz0 hz1 _ _ _ _ L.length rfl rfl rfl rfl hb2 hb3 (Nat.le_refl _) ?_; intro w8 hown8 hgrow8)
      obtain ⟨m, hm⟩ : ∃ m, w7.heap.size = m := ⟨_, rfl⟩
      have HPM : Hid (∀ b, cv.ownBlock = some b → r + 1 + 1 < b ∧ b < m) := Lib.hid (fun b hb => ⟨HPG.out b hb, by rw [← hm]; exact HPI7.out.1.lt hb (by rw [lowB_length]; exact (szN_bd P.F).1)⟩)
      have hm8 : w8.heap[m]? = some (.cells (btC (cpL L 0)).toArray 140 (0, 0)) := by
        rcases hown8.2 with ⟨h1, _⟩ | ⟨g, cap, cur, h1, _, hh, _, _, hs, ht⟩
        · cases h1
        · simp only [Value.slice.injEq, Option.some.injEq, Addr.mk.injEq, and_true, true_and] at h1
          obtain ⟨rfl, rfl⟩ := h1
          rw [List.take_of_length_le (by rw [Array.length_toList]; omega)] at ht
          have e : cur = (btC (cpL L 0)).toArray := by
            apply Array.ext'
            rw [ht]
            show (madeCells #[Value.slice none 0 0, .int .u32 0, .int .i64 0] (L.length * 3)).toList = _
            rw [madeBt]
            rfl
          rw [← hm, ← e]
          exact hh
      have hx78 : Ext w7 w8 := (Ext.refl w7).grown hgrow8 (by intro k hk; cases hk)
      have HX8 := Lib.hid (HX7.out.trans hx78)
      have HP8 := Lib.hid (hx78.heap HP7.out)
      have HZ8 := Lib.hid (hx78.heap HZ7.out)
      have HB8 := Lib.hid (hx78.heap HV.out.1)
      have HM8 := Lib.hid hm8
      have HPI8 := Lib.hid (HPI7.out.ext hx78)
      have HMB : Hid (r + 1 + 1 < b9 ∧ b9 < m ∧ w.heap.size = r) := Lib.hid ⟨HB9.out.1, by have := heap_lt HV.out.1; omega, HR.out⟩
      rw [hm]
      clear hown8 hgrow8 hx78 hm hm8 c5 n0 HX6 HX7 HP6 HP7 HZ6 HZ7 HPI7 HU HV HPI HPL HB9 HX5 hb2 hb3
      go_wp2_with fail
      go_loopw [11] (fun i wr => ∃ j : Nat, j ≤ L.length ∧ i = .int .i64 j ∧ Hid (wr.heap[m]? = some (.cells (btC (cpL L j)).toArray 140 (0, 0)) ∧ Chg [m] w8 wr)) (fun i _ => L.length - (intOf i).toNat)
      case atStart => exact ⟨0, Nat.zero_le _, rfl, Lib.hid ⟨HM8.out, Chg.refl _ _⟩⟩
      case round =>
        rename World => wr
        obtain ⟨j, hj, rfl, HI2⟩ := hrel
        have HXR : Hid (Ext w wr) := Lib.hid (HX8.out.chgTrans HI2.out.2 (by have := HMB.out; simp; omega))
        have HPR := Lib.hid (HI2.out.2.heap HP8.out (by have := HMB.out; simp; omega))
        have k5 : wr.cell? ⟨r, 5, none⟩ = some (.slice va L.length vcap) := cell_of_heap HPR.out rfl
        have n0 := heap_lt HPR.out
        have nm := heap_lt HI2.out.1
        by_cases hlt : j < L.length
        · have hji : (j : Int) < (L.length : Int) := by omega
          obtain ⟨b, hb⟩ : ∃ b, L[j]? = some b := ⟨_, List.getElem?_eq_getElem hlt⟩
          obtain ⟨g, off, rfl, hgl, hld, _⟩ := bt_get (H.out.r.ext HXR.out) rfl hb
          obtain ⟨hst, hst2, hst3⟩ := bt_put HI2.out.1 (show j < (cpL L j).length by rw [cpL_len L hj]; exact hlt) b (bt_one (H.out.c j b hb))
          rw [cpL_set hb] at hst2
          obtain ⟨wz, hwz⟩ : ∃ wz, wr.setCells m (j * 3) b.C = wz := ⟨_, rfl⟩
          rw [hwz] at hst hst2 hst3
          have HST := Lib.hid (And.intro hst2 (HI2.out.2.trans hst3))
          clear hst2 hst3 hwz hb
          go_wp2_with fail
          go_roundw
          case rel => exact ⟨j + 1, by omega, by go_num, HST⟩
          case measure => simp [intOf]; omega
        · obtain rfl : j = L.length := by omega
          have hmL := HI2.out.1
          rw [cpL_full] at hmL
          have k0 : wr.cell? ⟨r, 0, none⟩ = some (.int .i64 P.W) := cell_of_heap HPR.out rfl
          have HBR := Lib.hid (HI2.out.2.heap HB8.out (by have := HMB.out; simp; omega))
          have lb : (@Classical.epsilon _ neF (LdF 140 (.pointer (some ⟨b9, 0, none⟩)))).run Try.prog wr = .ok (.agg (newB P cv c).C.toArray) wr := ldF_whole (T := 140) _ HBR.out Try.underlying140 rfl (by kernel_rfl)
          have nb := heap_lt HBR.out
          have hkL : k < L.length := by rw [H.out.l]; exact HI.out
          have hki : (k : Int) < (L.length : Int) := by omega
          have hk0 : (0 : Int) ≤ (k : Int) := by omega
          obtain ⟨hst, hst2, hst3⟩ := bt_put hmL hkL (newB P cv c) HONE.out
          obtain ⟨wz, hwz⟩ : ∃ wz, wr.setCells m (k * 3) (newB P cv c).C = wz := ⟨_, rfl⟩
          rw [hwz] at hst hst2 hst3
          have hpz := hst3.heap HPR.out (by have := HMB.out; simp; omega)
          have z5 : wz.cell? ⟨r, 5, none⟩ = some (.slice va L.length vcap) := cell_of_heap hpz rfl
          have f5 : wz.frozen? ⟨r, 5, none⟩ = false := free_of_heap hpz
          have nz := heap_lt hpz
          obtain ⟨wy, hwy⟩ : ∃ wy, wz.setCell ⟨r, 5, none⟩ (.slice (some ⟨m, 0, none⟩) L.length L.length) = wy := ⟨_, rfl⟩
          have hcy : Chg [r] wz wy := by rw [← hwy]; exact (Chg.refl _ _).setCell (p := ⟨r, 5, none⟩) (by simp) _
          have hpy : DpAt wy r P (.slice (some ⟨m, 0, none⟩) L.length L.length) := by rw [← hwy]; exact heap_set (k := 5) (u := .slice (some ⟨m, 0, none⟩) L.length L.length) hpz
          have ly := hpy.load
          have ny := heap_lt hpy
          have hzy := hcy.heap (hst3.heap (HI2.out.2.heap HZ8.out (by have := HMB.out; simp; omega)) (by have := HMB.out; simp; omega)) (show r + 1 + 1 ∉ [r] by simp; omega)
          have nzy := heap_lt hzy
          obtain ⟨t1, t2, t3⟩ := stF_mid 76 (L := [.int .i64 0, .int .i64 0, .int .i64 0, .bool false, .bool false, .slice none 0 0]) hzy 0 (P.D (.slice (some ⟨m, 0, none⟩) L.length L.length)) (by simp [Pl.D]) (by kernel_rfl) (by simp [Pl.D, Value.oneCell'])
          have hmy := hcy.heap hst2 (by have := HMB.out; simp; omega)
          obtain ⟨wx, hwx⟩ : ∃ wx, wy.setCells (r + 1 + 1) 0 (P.D (.slice (some ⟨m, 0, none⟩) L.length L.length)) = wx := ⟨_, rfl⟩
          rw [hwx] at t1 t2 t3
          have hcx : Chg [m, r, r + 1 + 1] wr wx := ((hst3.mono (by intro k hk; rw [List.mem_singleton.1 hk]; simp)).trans (hcy.mono (by intro k hk; rw [List.mem_singleton.1 hk]; simp))).trans (t3.mono (by intro k hk; rw [List.mem_singleton.1 hk]; simp))
          have HXX : Hid (Ext w wx) := Lib.hid (HXR.out.chgTrans hcx (by have := HMB.out; simp; omega))
          have HMX := Lib.hid (t3.heap hmy (by have := HMB.out; simp; omega))
          have HTX := Lib.hid t2
          have HPIX : Hid (Ints .u8 wx cv (lowB (packX P.F c.v.L) (szN P.F))) := Lib.hid ((HPI8.out.chg HI2.out.2 (fun b hb h0 => by have := HPM.out b hb; simp; omega)).chg hcx (fun b hb h0 => by have := HPM.out b hb; simp; omega))
          clear hst2 hst3 hcy hpz hpy hzy t2 t3 hmy hcx hmL
          go_wp2_with fail
          have e : (List.take 0 [Value.int .i64 0, .int .i64 0, .int .i64 0, .bool false, .bool false, .slice none 0 0] ++ P.D (.slice (some ⟨m, 0, none⟩) L.length L.length) ++ List.drop (0 + (P.D (.slice (some ⟨m, 0, none⟩) L.length L.length)).length) [Value.int .i64 0, .int .i64 0, .int .i64 0, .bool false, .bool false, .slice none 0 0]) = P.D (.slice (some ⟨m, 0, none⟩) L.length L.length) := by simp [Pl.D]
          have hpx := HTX.out
          rw [e] at hpx
          have hload := run_loadVar_whole (P := Try.prog) 76 _ hpx Try.underlying76 rfl (by kernel_rfl)
          refine bodyPost_ret (results_cell1 rfl _ _ _ _ rfl hload) rfl ?_
          refine ⟨.slice (some ⟨m, 0, none⟩) L.length L.length, L.set k (newB P cv c), rfl, ?_, HXX.out⟩
          have hd := H.out.lay HXX.out HI.out HCS.out (HBS.out m (by have := HMB.out; omega)) HMX.out HPIX.out HPB.out
          rw [← H.out.l] at hd
          exact hd
end
end Go.Proofs.Ytgdcdkajicgliaa
