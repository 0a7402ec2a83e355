/- The walk of OctetReads. Conditions: the theorem's own premises. -/
import Derived.Test.YtooieiehmffgdaaOct9
import Derived.Deep.DeepCutAuto
import Derived.Deep.CutBlock
import Derived.Test.YtooieiehmffgdaaOctP
namespace Go.Proofs.Ytooieiehmffgdaa
open Go.RowKit
set_option linter.unusedVariables false

/-- A slice of pairs of numbers. -/
def Pairs (w : World) (v : Value) (l : List (Int × Int)) : Prop :=
  SlC w v 2 l.length (l.flatMap fun p => [.int .i64 p.1, .int .i64 p.2]) ∧ ∀ p ∈ l, (Lit.int .i64 p.1).wf = true ∧ (Lit.int .i64 p.2).wf = true

theorem pairs_get : ∀ (l : List (Int × Int)) (k : Nat), k < l.length → (l.flatMap fun p => [Value.int .i64 p.1, .int .i64 p.2])[k * 2]? = some (.int .i64 (l.getD k (0, 0)).1) ∧ (l.flatMap fun p => [Value.int .i64 p.1, .int .i64 p.2])[k * 2 + 1]? = some (.int .i64 (l.getD k (0, 0)).2)
  | [], k, h => by simp at h
  | p :: l, 0, _ => by simp
  | p :: l, k + 1, h => by
    have := pairs_get l k (by simpa using h)
    have e1 : (k + 1) * 2 = k * 2 + 1 + 1 := by omega
    simp only [List.flatMap_cons, List.cons_append, List.nil_append, e1, List.getElem?_cons_succ, List.getD_cons_succ]
    exact this

theorem Pairs.pos {w : World} {a : Option Addr} {n cap : Nat} {l : List (Int × Int)} (h : Pairs w (.slice a n cap) l) (h0 : 0 < l.length) :
    ∃ b off, a = some ⟨b, off, none⟩ ∧ b < w.heap.size ∧ ∀ j, j < l.length → w.cell? ⟨b, off + j * 2, none⟩ = some (.int .i64 (l.getD j (0, 0)).1) ∧ w.cell? ⟨b, off + j * 2 + 1, none⟩ = some (.int .i64 (l.getD j (0, 0)).2) := by
  obtain ⟨⟨hlen, a', cap', he, hn, hc, hz, hp⟩, _⟩ := h
  simp only [Value.slice.injEq] at he
  obtain ⟨rfl, _, rfl⟩ := he
  obtain ⟨b, off, rfl, hb, hcell⟩ := hp h0
  refine ⟨b, off, rfl, hb, fun j hj => ⟨hcell _ _ (pairs_get l j hj).1, ?_⟩⟩
  rw [Nat.add_assoc]
  exact hcell _ _ (pairs_get l j hj).2

theorem Pairs.ext {w w' : World} {v : Value} {l : List (Int × Int)} (h : Pairs w v l) (x : Ext w w') : Pairs w' v l := ⟨h.1.ext x, h.2⟩

theorem tmod_bd (K : Int) : -7 ≤ K.tmod 8 ∧ K.tmod 8 ≤ 7 := by
  have h := Int.tmod_lt_of_pos K (show (0 : Int) < 8 by decide)
  have h2 := Int.tmod_lt_of_pos (-K) (show (0 : Int) < 8 by decide)
  rw [Int.neg_tmod] at h2
  omega

/-- No byte stands in these blocks. -/
def NoBytes (w : World) (M : List Nat) : Prop := ∀ b ∈ M, ∀ o z, w.cell? ⟨b, o, none⟩ ≠ some (.int .u8 z)

theorem Ints.chgNo {M : List Nat} {w w' : World} {v : Value} {zs : List Int} (h : Ints .u8 w v zs) (hn : NoBytes w M) (hc : Chg M w w') : Ints .u8 w' v zs := by
  refine h.chg hc ?_
  intro b hb h0 hm
  obtain ⟨⟨_, a, cap, rfl, _, _, _, hp⟩, _⟩ := h
  obtain ⟨b2, off, rfl, _, hcell⟩ := hp h0
  simp [Value.ownBlock] at hb
  subst hb
  have := hcell 0 (.int .u8 (zs.getD 0 0)) (by
    cases zs with
    | nil => simp at h0
    | cons z l => simp)
  exact hn _ hm _ _ this
theorem RdAt.chgNo {M : List Nat} {w w' : World} {q : Nat} {bs : List Int} {at_ : Nat} {er : Int} (h : RdAt w q bs at_ er) (hq : q ∉ M) (hn : NoBytes w M) (hc : Chg M w w') : RdAt w' q bs at_ er := by
  obtain ⟨v, h1, h2, h3⟩ := h
  exact ⟨v, hc.heap h1 hq, h2.chgNo hn hc, h3⟩
theorem NoBytes.cons {w : World} {b : Nat} {M : List Nat} {cs : Array Value} {T : TypeId} (h : w.heap[b]? = some (.cells cs T (0, 0))) (hc : ∀ u ∈ cs.toList, ∀ z, u ≠ .int .u8 z) (k : NoBytes w M) : NoBytes w (b :: M) := by
  intro b' hb' o z
  rcases List.mem_cons.1 hb' with rfl | hb'
  · intro he
    simp only [World.cell?, h] at he
    simp at he
    exact hc _ (by have := Array.mem_of_getElem? he; simpa using this) z rfl
  · exact k b' hb' o z
theorem NoBytes.nil (w : World) : NoBytes w [] := by intro b hb; cases hb
theorem RdAt.noBytes {w : World} {p : Nat} {bs : List Int} {at_ : Nat} {er : Int} {M : List Nat} (h : RdAt w p bs at_ er) (k : NoBytes w M) : NoBytes w (p :: M) := by
  obtain ⟨v, h1, h2, _⟩ := h
  obtain ⟨⟨_, a, cap, rfl, _⟩, _⟩ := h2
  refine NoBytes.cons h1 ?_ k
  intro u hu z
  simp at hu
  rcases hu with rfl | rfl | rfl <;> (intro h; cases h)

set_option maxHeartbeats 16000000 in
set_option maxRecDepth 100000 in
/-- OctetReads. -/
theorem reads_walk (v u : Value) (zs : List Int) (l : List (Int × Int)) (w : World) (h : Ints .u8 w v zs) (hl : Pairs w u l) (hb : zs.length + 8 ≤ 140737488355328) :
    Calls Try.prog 6 #[v, u] w fun e w' => e = .returned (.bool true) ∧ Ext w w' := by
  obtain ⟨a1, k1, rfl⟩ : ∃ a cap, v = .slice a zs.length cap := by obtain ⟨⟨_, a, cap, rfl, _⟩, _⟩ := h; exact ⟨a, cap, rfl⟩
  obtain ⟨a2, k2, rfl⟩ : ∃ a cap, u = .slice a l.length cap := by obtain ⟨⟨_, a, cap, rfl, _⟩, _⟩ := hl; exact ⟨a, cap, rfl⟩
  have hlm : l.length ≤ 9223372036854775807 := by obtain ⟨⟨_, a, cap, he, h1, h2, _⟩, _⟩ := hl; unfold maxLen at h2; omega
  go_enter Try.func6, Try.ntmps6
  go_wp2_with fail
  refine (wakes_any _).mono ?_
  rintro e w1 ⟨rfl, e1⟩
  go_wp2_with fail
  refine (read_any _ zs _ (h.ext e1) (by omega)).mono ?_
  rintro e w2 ⟨p, rfl, hp, hr, e2⟩
  go_wp2_with fail
  refine (read_any _ zs _ (h.ext (e1.trans e2)) (by omega)).mono ?_
  rintro e w3 ⟨q, rfl, hq, hs, e3⟩
  go_wp2_with fail
  refine (both_any _ _ zs [] _ (h.ext ((e1.trans e2).trans e3)) (nil_ints _) (by simp; omega)).mono ?_
  rintro e w4 ⟨a4, k4, rfl, i4, e4⟩
  rw [List.append_nil] at i4
  simp only [List.length_nil, Nat.add_zero] at i4 ⊢
  have hr4 := (hr.ext e3).ext e4
  have hs4 := hs.ext e4
  have hpq : p < q := by have := hr.lt; omega
  have hq4 : q < w4.heap.size := by have := hs4.lt; exact this
  have hp0 : w.heap.size ≤ p := by have := e1.size; omega
  have e04 := ((e1.trans e2).trans e3).trans e4
  clear hr hs hp hq e1 e2 e3 e4
  go_wp2_with fail
  go_loopw [24] (fun i wr => ∃ (k at_ : Nat) (er : Int) (a : Option Addr) (c : Nat), k ≤ l.length ∧ i = .int .i64 k ∧ RdAt wr p zs at_ er ∧ RdAt wr q zs 0 0 ∧ wr.heap[w4.heap.size]? = some (.cells #[.slice a zs.length c, .int .i64 at_, .int .i64 er] 51 (0, 0)) ∧ Ints .u8 wr (.slice a zs.length c) zs ∧ Ext w wr) (fun i _ => l.length - (intOf i).toNat)
  case atStart => exact ⟨0, 0, 0, a4, k4, Nat.zero_le _, rfl, hr4.ext ((Ext.refl _).alloc _), hs4.ext ((Ext.refl _).alloc _), heap_alloc_new _ _, i4.ext ((Ext.refl _).alloc _), e04.alloc _⟩
  case round =>
    obtain ⟨k, at_, er, a, c, hk, rfl, hr, hs, hM, hi, hx⟩ := hrel
    by_cases hlt : k < l.length
    · obtain ⟨b, off, rfl, hbl, hcell⟩ := (hl.ext hx).pos (by omega)
      obtain ⟨hc1, hc2⟩ := hcell k hlt
      have hw := hl.2 (l.getD k (0, 0)) (by rw [List.getD_eq_getElem?_getD, List.getElem?_eq_getElem hlt]; exact List.getElem_mem hlt)
      clear hcell
      generalize (l.getD k (0, 0)).1 = K at *
      generalize (l.getD k (0, 0)).2 = n at *
      obtain ⟨hwK, hwn⟩ := hw
      by_cases h100 : k = 200
      · subst h100
        go_wp2_with fail
        refine (left_any q _ _ _ _ (hs.ext ((Ext.refl _).alloc _))).mono ?_
        rintro e w7 ⟨rfl, e7⟩
        go_wp2_with fail
        refine (err_any q _ _ _ _ ((hs.ext ((Ext.refl _).alloc _)).ext e7)).mono ?_
        rintro e w8 ⟨rfl, rfl⟩
        go_wp2_with fail
        go_ret
        exact ⟨by simp, (hx.alloc _).trans e7⟩
      · have h100' : ((k : Int) == 200) = false := by simp; omega
        have hKb := tmod_bd K
        generalize hr8 : K.tmod 8 = r at *
        obtain ⟨κ, hκ⟩ : ∃ κ, (r + 8) % 8 = κ := ⟨_, rfl⟩
        have hκ2 : r % 8 = κ := by omega
        have hκ0 : 0 ≤ κ := by omega
        have hκ7 : κ ≤ 7 := by omega
        have cM0 : wr.cell? ⟨w4.heap.size, 0, none⟩ = some (.slice a zs.length c) := by simp [World.cell?, hM]
        have cM1 : wr.cell? ⟨w4.heap.size, 1, none⟩ = some (.int .i64 at_) := by simp [World.cell?, hM]
        have cM2 : wr.cell? ⟨w4.heap.size, 2, none⟩ = some (.int .i64 er) := by simp [World.cell?, hM]
        have hMlt : w4.heap.size < wr.heap.size := (Array.getElem?_eq_some_iff.1 hM).1
        have HM := Lib.hid hM; clear hM
        have hat : at_ ≤ zs.length := by obtain ⟨_, _, _, h⟩ := hr; exact h
        go_wp2_with fail
        refine (do_any a c zs at_ er κ n _ (hi.ext ((Ext.refl _).alloc _)) hat hwn hκ0 hκ7).mono ?_
        rintro e w5 ⟨a5, c5, rfl, i5, e5⟩
        have hA : w5.heap[wr.heap.size]? = some (.cells #[.int .i64 κ, .int .i64 n] 53 (0, 0)) := e5.heap (heap_alloc_new _ _)
        have hM5 := ((Ext.refl wr).alloc (.cells #[.int .i64 κ, .int .i64 n] 53)).trans e5 |>.heap HM.out
        have hr5 := hr.ext (((Ext.refl wr).alloc (.cells #[.int .i64 κ, .int .i64 n] 53)).trans e5)
        have hs5 := hs.ext (((Ext.refl wr).alloc (.cells #[.int .i64 κ, .int .i64 n] 53)).trans e5)
        have hi5 := hi.ext (((Ext.refl wr).alloc (.cells #[.int .i64 κ, .int .i64 n] 53)).trans e5)
        have hx5 := hx.trans (((Ext.refl wr).alloc (.cells #[.int .i64 κ, .int .i64 n] 53)).trans e5)
        have hlA : wr.heap.size < w5.heap.size := (Array.getElem?_eq_some_iff.1 hA).1
        have hlM : w4.heap.size < w5.heap.size := (Array.getElem?_eq_some_iff.1 hM5).1
        have cA0 : w5.cell? ⟨wr.heap.size, 0, none⟩ = some (.int .i64 κ) := by simp [World.cell?, hA]
        have cA1 : w5.cell? ⟨wr.heap.size, 1, none⟩ = some (.int .i64 n) := by simp [World.cell?, hA]
        have hlA1 : wr.heap.size < w5.heap.size + 1 := by omega
        have hlA2 : wr.heap.size < w5.heap.size + 1 + 1 := by omega
        have HA := Lib.hid hA; clear hA
        have HM5 := Lib.hid hM5; clear hM5
        clear HM cM0 cM1 cM2 hr hs hi hx e5 hMlt
        generalize hTT : takeR zs at_ er (askN κ n) = T at *
        have HT := Lib.hid hTT; clear hTT
        go_upto_block 2 with fail
        go_cut [] (fun wx => ∃ a6 c6, wx.heap[w5.heap.size + 1 + 1]? = some (.cells #[.int .i64 (toldN κ er T), .slice a6 (toldB κ T).length c6] 55 (0, 0)) ∧ Ints .u8 wx (.slice a6 (toldB κ T).length c6) (toldB κ T) ∧
          RdAt wx p zs T.2.1 T.2.2 ∧ Chg [p, w5.heap.size + 1 + 1] (((w5.alloc (.cells #[.slice a zs.length c, .int .i64 T.2.1, .int .i64 T.2.2] 51)).alloc (.cells #[.int .i64 (toldN κ er T), .slice a5 (toldB κ T).length c5] 55)).alloc (.cells #[.int .i64 0, .slice none 0 0] 55)) wx)
        case first =>
          have hcases : κ = 0 ∨ κ = 1 ∨ κ = 2 ∨ κ = 3 ∨ κ = 4 ∨ κ = 5 ∨ κ = 6 ∨ κ = 7 := by omega
          clear hκ hκ2 hκ0 hκ7
          rcases hcases with rfl | rfl | rfl | rfl | rfl | rfl | rfl | rfl
          · have hq : takeR zs at_ er 1 = T := by have := HT.out; simpa [askN] using this
            obtain ⟨hT1, hT2, hT3⟩ := told_u8 zs at_ er hat h.2
            rw [hq] at hT1 hT2 hT3
            have hB := told_none 0 T (by decide)
            have HQ := Lib.hid hq; have HT1 := Lib.hid hT1; have HB := Lib.hid hB
            clear hq hT1 hB
            generalize toldN 0 er T = y at *
            have hG := heap_third w5 (.cells #[.slice a zs.length c, .int .i64 T.2.1, .int .i64 T.2.2] 51) (.cells #[.int .i64 y, .slice a5 (toldB 0 T).length c5] 55) (.cells #[.int .i64 0, .slice none 0 0] 55)
            go_wp2_with fail
            refine (u8_any p zs at_ er _ (hr5.ext ((((Ext.refl _).alloc _).alloc _).alloc _)) (by omega)).mono ?_
            rw [HQ.out, HT1.out]
            rintro e w6 ⟨rfl, hr6, c6⟩
            have hpw : p < w5.heap.size := hr5.lt
            have hG6 := c6.heap hG (by simp; omega)
            have cG0 := cell_of_heap (o := 0) hG6 rfl
            have cG1 := cell_of_heap (o := 1) hG6 rfl
            have fG0 := free_of_heap (o := 0) hG6
            have fG1 := free_of_heap (o := 1) hG6
            have HG6 := Lib.hid hG6; clear hG6 hG
            go_wp2_with fail
            go_meet
            have hc7 : Chg [p, w5.heap.size + 1 + 1] w6 (w6.setCell ⟨w5.heap.size + 1 + 1, 0, none⟩ (.int .i64 y)) := (Chg.refl _ _).setCell (by simp) _
            exact ⟨none, 0, by rw [HB.out]; exact heap_set HG6.out, by rw [HB.out]; exact Ints.nil _ _, hr6.keepBlock (b := w5.heap.size + 1 + 1) (by omega) HG6.out (by intro z h; cases h) (by intro z h; cases h) ((Chg.refl _ _).setCell (by simp) _), (c6.mono (by simp)).trans hc7⟩
          · have hq : takeR zs at_ er 2 = T := by have := HT.out; simpa [askN] using this
            obtain ⟨hT1, hT2, hT3⟩ := told_u16 zs at_ er hat h.2
            rw [hq] at hT1 hT2 hT3
            have hB := told_none 1 T (by decide)
            have HQ := Lib.hid hq; have HT1 := Lib.hid hT1; have HB := Lib.hid hB
            clear hq hT1 hB
            generalize toldN 1 er T = y at *
            have hG := heap_third w5 (.cells #[.slice a zs.length c, .int .i64 T.2.1, .int .i64 T.2.2] 51) (.cells #[.int .i64 y, .slice a5 (toldB 1 T).length c5] 55) (.cells #[.int .i64 0, .slice none 0 0] 55)
            go_wp2_with fail
            refine (u16_any p zs at_ er _ (hr5.ext ((((Ext.refl _).alloc _).alloc _).alloc _)) (by omega)).mono ?_
            rw [HQ.out, HT1.out]
            rintro e w6 ⟨rfl, hr6, c6⟩
            have hpw : p < w5.heap.size := hr5.lt
            have hG6 := c6.heap hG (by simp; omega)
            have cG0 := cell_of_heap (o := 0) hG6 rfl
            have cG1 := cell_of_heap (o := 1) hG6 rfl
            have fG0 := free_of_heap (o := 0) hG6
            have fG1 := free_of_heap (o := 1) hG6
            have HG6 := Lib.hid hG6; clear hG6 hG
            go_wp2_with fail
            go_meet
            have hc7 : Chg [p, w5.heap.size + 1 + 1] w6 (w6.setCell ⟨w5.heap.size + 1 + 1, 0, none⟩ (.int .i64 y)) := (Chg.refl _ _).setCell (by simp) _
            exact ⟨none, 0, by rw [HB.out]; exact heap_set HG6.out, by rw [HB.out]; exact Ints.nil _ _, hr6.keepBlock (b := w5.heap.size + 1 + 1) (by omega) HG6.out (by intro z h; cases h) (by intro z h; cases h) ((Chg.refl _ _).setCell (by simp) _), (c6.mono (by simp)).trans hc7⟩
          · have hq : takeR zs at_ er 4 = T := by have := HT.out; simpa [askN] using this
            obtain ⟨hT1, hT2, hT3⟩ := told_u32 zs at_ er hat h.2
            rw [hq] at hT1 hT2 hT3
            have hB := told_none 2 T (by decide)
            have HQ := Lib.hid hq; have HT1 := Lib.hid hT1; have HB := Lib.hid hB
            clear hq hT1 hB
            generalize toldN 2 er T = y at *
            have hG := heap_third w5 (.cells #[.slice a zs.length c, .int .i64 T.2.1, .int .i64 T.2.2] 51) (.cells #[.int .i64 y, .slice a5 (toldB 2 T).length c5] 55) (.cells #[.int .i64 0, .slice none 0 0] 55)
            go_wp2_with fail
            refine (u32_any p zs at_ er _ (hr5.ext ((((Ext.refl _).alloc _).alloc _).alloc _)) (by omega)).mono ?_
            rw [HQ.out, HT1.out]
            rintro e w6 ⟨rfl, hr6, c6⟩
            have hpw : p < w5.heap.size := hr5.lt
            have hG6 := c6.heap hG (by simp; omega)
            have cG0 := cell_of_heap (o := 0) hG6 rfl
            have cG1 := cell_of_heap (o := 1) hG6 rfl
            have fG0 := free_of_heap (o := 0) hG6
            have fG1 := free_of_heap (o := 1) hG6
            have HG6 := Lib.hid hG6; clear hG6 hG
            go_wp2_with fail
            go_meet
            have hc7 : Chg [p, w5.heap.size + 1 + 1] w6 (w6.setCell ⟨w5.heap.size + 1 + 1, 0, none⟩ (.int .i64 y)) := (Chg.refl _ _).setCell (by simp) _
            exact ⟨none, 0, by rw [HB.out]; exact heap_set HG6.out, by rw [HB.out]; exact Ints.nil _ _, hr6.keepBlock (b := w5.heap.size + 1 + 1) (by omega) HG6.out (by intro z h; cases h) (by intro z h; cases h) ((Chg.refl _ _).setCell (by simp) _), (c6.mono (by simp)).trans hc7⟩
          · have hq : takeR zs at_ er 1 = T := by have := HT.out; simpa [askN] using this
            obtain ⟨hT1, hT2, hT3⟩ := told_i8 zs at_ er hat h.2
            rw [hq] at hT1 hT2 hT3
            have hB := told_none 3 T (by decide)
            have HQ := Lib.hid hq; have HT1 := Lib.hid hT1; have HB := Lib.hid hB
            clear hq hT1 hB
            generalize toldN 3 er T = y at *
            have hG := heap_third w5 (.cells #[.slice a zs.length c, .int .i64 T.2.1, .int .i64 T.2.2] 51) (.cells #[.int .i64 y, .slice a5 (toldB 3 T).length c5] 55) (.cells #[.int .i64 0, .slice none 0 0] 55)
            go_wp2_with fail
            refine (i8_any p zs at_ er _ (hr5.ext ((((Ext.refl _).alloc _).alloc _).alloc _)) (by omega)).mono ?_
            rw [HQ.out, HT1.out]
            rintro e w6 ⟨rfl, hr6, c6⟩
            have hpw : p < w5.heap.size := hr5.lt
            have hG6 := c6.heap hG (by simp; omega)
            have cG0 := cell_of_heap (o := 0) hG6 rfl
            have cG1 := cell_of_heap (o := 1) hG6 rfl
            have fG0 := free_of_heap (o := 0) hG6
            have fG1 := free_of_heap (o := 1) hG6
            have HG6 := Lib.hid hG6; clear hG6 hG
            go_wp2_with fail
            go_meet
            have hc7 : Chg [p, w5.heap.size + 1 + 1] w6 (w6.setCell ⟨w5.heap.size + 1 + 1, 0, none⟩ (.int .i64 y)) := (Chg.refl _ _).setCell (by simp) _
            exact ⟨none, 0, by rw [HB.out]; exact heap_set HG6.out, by rw [HB.out]; exact Ints.nil _ _, hr6.keepBlock (b := w5.heap.size + 1 + 1) (by omega) HG6.out (by intro z h; cases h) (by intro z h; cases h) ((Chg.refl _ _).setCell (by simp) _), (c6.mono (by simp)).trans hc7⟩
          · have hq : takeR zs at_ er 2 = T := by have := HT.out; simpa [askN] using this
            obtain ⟨hT1, hT2, hT3⟩ := told_i16 zs at_ er hat h.2
            rw [hq] at hT1 hT2 hT3
            have hB := told_none 4 T (by decide)
            have HQ := Lib.hid hq; have HT1 := Lib.hid hT1; have HB := Lib.hid hB
            clear hq hT1 hB
            generalize toldN 4 er T = y at *
            have hG := heap_third w5 (.cells #[.slice a zs.length c, .int .i64 T.2.1, .int .i64 T.2.2] 51) (.cells #[.int .i64 y, .slice a5 (toldB 4 T).length c5] 55) (.cells #[.int .i64 0, .slice none 0 0] 55)
            go_wp2_with fail
            refine (i16_any p zs at_ er _ (hr5.ext ((((Ext.refl _).alloc _).alloc _).alloc _)) (by omega)).mono ?_
            rw [HQ.out, HT1.out]
            rintro e w6 ⟨rfl, hr6, c6⟩
            have hpw : p < w5.heap.size := hr5.lt
            have hG6 := c6.heap hG (by simp; omega)
            have cG0 := cell_of_heap (o := 0) hG6 rfl
            have cG1 := cell_of_heap (o := 1) hG6 rfl
            have fG0 := free_of_heap (o := 0) hG6
            have fG1 := free_of_heap (o := 1) hG6
            have HG6 := Lib.hid hG6; clear hG6 hG
            go_wp2_with fail
            go_meet
            have hc7 : Chg [p, w5.heap.size + 1 + 1] w6 (w6.setCell ⟨w5.heap.size + 1 + 1, 0, none⟩ (.int .i64 y)) := (Chg.refl _ _).setCell (by simp) _
            exact ⟨none, 0, by rw [HB.out]; exact heap_set HG6.out, by rw [HB.out]; exact Ints.nil _ _, hr6.keepBlock (b := w5.heap.size + 1 + 1) (by omega) HG6.out (by intro z h; cases h) (by intro z h; cases h) ((Chg.refl _ _).setCell (by simp) _), (c6.mono (by simp)).trans hc7⟩
          · have hq : takeR zs at_ er 4 = T := by have := HT.out; simpa [askN] using this
            obtain ⟨hT1, hT2, hT3⟩ := told_i32 zs at_ er hat h.2
            rw [hq] at hT1 hT2 hT3
            have hB := told_none 5 T (by decide)
            have HQ := Lib.hid hq; have HT1 := Lib.hid hT1; have HB := Lib.hid hB
            clear hq hT1 hB
            generalize toldN 5 er T = y at *
            have hG := heap_third w5 (.cells #[.slice a zs.length c, .int .i64 T.2.1, .int .i64 T.2.2] 51) (.cells #[.int .i64 y, .slice a5 (toldB 5 T).length c5] 55) (.cells #[.int .i64 0, .slice none 0 0] 55)
            go_wp2_with fail
            refine (i32_any p zs at_ er _ (hr5.ext ((((Ext.refl _).alloc _).alloc _).alloc _)) (by omega)).mono ?_
            rw [HQ.out, HT1.out]
            rintro e w6 ⟨rfl, hr6, c6⟩
            have hpw : p < w5.heap.size := hr5.lt
            have hG6 := c6.heap hG (by simp; omega)
            have cG0 := cell_of_heap (o := 0) hG6 rfl
            have cG1 := cell_of_heap (o := 1) hG6 rfl
            have fG0 := free_of_heap (o := 0) hG6
            have fG1 := free_of_heap (o := 1) hG6
            have HG6 := Lib.hid hG6; clear hG6 hG
            go_wp2_with fail
            go_meet
            have hc7 : Chg [p, w5.heap.size + 1 + 1] w6 (w6.setCell ⟨w5.heap.size + 1 + 1, 0, none⟩ (.int .i64 y)) := (Chg.refl _ _).setCell (by simp) _
            exact ⟨none, 0, by rw [HB.out]; exact heap_set HG6.out, by rw [HB.out]; exact Ints.nil _ _, hr6.keepBlock (b := w5.heap.size + 1 + 1) (by omega) HG6.out (by intro z h; cases h) (by intro z h; cases h) ((Chg.refl _ _).setCell (by simp) _), (c6.mono (by simp)).trans hc7⟩
          · have hq : takeR zs at_ er n = T := by have := HT.out; simpa [askN] using this
            have hB : toldB 6 T = T.1 := by rw [← hq]; exact told_raw zs at_ er n
            have hN := told_zero 6 er T (by decide)
            have HQ := Lib.hid hq; have HB := Lib.hid hB; have HN := Lib.hid hN
            clear hq hB hN
            have hG := heap_third w5 (.cells #[.slice a zs.length c, .int .i64 T.2.1, .int .i64 T.2.2] 51) (.cells #[.int .i64 (toldN 6 er T), .slice a5 (toldB 6 T).length c5] 55) (.cells #[.int .i64 0, .slice none 0 0] 55)
            go_wp2_with fail
            refine (raw_any p zs at_ er n _ (hr5.ext ((((Ext.refl _).alloc _).alloc _).alloc _)) (by omega) hwn).mono ?_
            rw [HQ.out]
            rintro e w6 ⟨a7, k7, rfl, i7, hr6, c6⟩
            have hpw : p < w5.heap.size := hr5.lt
            have hG6 := c6.heap hG (by simp; omega)
            have cG0 := cell_of_heap (o := 0) hG6 rfl
            have cG1 := cell_of_heap (o := 1) hG6 rfl
            have fG0 := free_of_heap (o := 0) hG6
            have fG1 := free_of_heap (o := 1) hG6
            have HG6 := Lib.hid hG6; clear hG6 hG
            go_wp2_with fail
            go_meet
            have hc7 : Chg [p, w5.heap.size + 1 + 1] w6 (w6.setCell ⟨w5.heap.size + 1 + 1, 1, none⟩ (.slice a7 T.1.length k7)) := (Chg.refl _ _).setCell (by simp) _
            have hnb7 : NoBytes w6 [w5.heap.size + 1 + 1] := NoBytes.cons HG6.out (by intro u hu z; simp at hu; rcases hu with rfl | rfl <;> (intro h; cases h)) (NoBytes.nil _)
            exact ⟨a7, k7, by rw [HB.out, HN.out]; exact heap_set HG6.out, by rw [HB.out]; exact i7.chgNo hnb7 ((Chg.refl _ _).setCell (by simp) _), hr6.keepBlock (b := w5.heap.size + 1 + 1) (by omega) HG6.out (by intro z h; cases h) (by intro z h; cases h) ((Chg.refl _ _).setCell (by simp) _), (c6.mono (by simp)).trans hc7⟩
          · have hq : takeR zs at_ er n = T := by have := HT.out; simpa [askN] using this
            have hB := told_none 7 T (by decide)
            have hN := told_zero 7 er T (by decide)
            have HQ := Lib.hid hq; have HB := Lib.hid hB; have HN := Lib.hid hN
            clear hq hB hN
            have hG := heap_third w5 (.cells #[.slice a zs.length c, .int .i64 T.2.1, .int .i64 T.2.2] 51) (.cells #[.int .i64 (toldN 7 er T), .slice a5 (toldB 7 T).length c5] 55) (.cells #[.int .i64 0, .slice none 0 0] 55)
            go_wp2_with fail
            refine (skip_any p zs at_ er n _ (hr5.ext ((((Ext.refl _).alloc _).alloc _).alloc _)) (by omega) hwn).mono ?_
            rw [HQ.out]
            rintro e w6 ⟨rfl, hr6, c6⟩
            have hpw : p < w5.heap.size := hr5.lt
            have hG6 := c6.heap hG (by simp; omega)
            have cG0 := cell_of_heap (o := 0) hG6 rfl
            have cG1 := cell_of_heap (o := 1) hG6 rfl
            have fG0 := free_of_heap (o := 0) hG6
            have fG1 := free_of_heap (o := 1) hG6
            have HG6 := Lib.hid hG6; clear hG6 hG
            go_wp2_with fail
            go_meet
            exact ⟨none, 0, by rw [HB.out, HN.out]; exact HG6.out, by rw [HB.out]; exact Ints.nil _ _, hr6, c6.mono (by simp)⟩
        case rest =>
          obtain ⟨a6, c6, hG, i6, hr6, ch6⟩ := hcut
          have hG0 := heap_third w5 (.cells #[.slice a zs.length c, .int .i64 T.2.1, .int .i64 T.2.2] 51) (.cells #[.int .i64 (toldN κ er T), .slice a5 (toldB κ T).length c5] 55) (.cells #[.int .i64 0, .slice none 0 0] 55)
          have hN0 := heap_first w5 (.cells #[.slice a zs.length c, .int .i64 T.2.1, .int .i64 T.2.2] 51) (.cells #[.int .i64 (toldN κ er T), .slice a5 (toldB κ T).length c5] 55) (.cells #[.int .i64 0, .slice none 0 0] 55)
          have hW0 := heap_second w5 (.cells #[.slice a zs.length c, .int .i64 T.2.1, .int .i64 T.2.2] 51) (.cells #[.int .i64 (toldN κ er T), .slice a5 (toldB κ T).length c5] 55) (.cells #[.int .i64 0, .slice none 0 0] 55)
          have e53 : Ext w5 (((w5.alloc (.cells #[.slice a zs.length c, .int .i64 T.2.1, .int .i64 T.2.2] 51)).alloc (.cells #[.int .i64 (toldN κ er T), .slice a5 (toldB κ T).length c5] 55)).alloc (.cells #[.int .i64 0, .slice none 0 0] 55)) := (((Ext.refl _).alloc _).alloc _).alloc _
          have hnb := (hr5.ext e53).noBytes (NoBytes.cons hG0 (by intro u hu z; simp at hu; rcases hu with rfl | rfl <;> (intro h; cases h)) (NoBytes.nil _))
          have hpw : p < w5.heap.size := hr5.lt
          have hqw : q < w5.heap.size := hs5.lt
          have hN := ch6.heap hN0 (by simp; omega)
          have hW := ch6.heap hW0 (by simp; omega)
          have hM := ch6.heap (e53.heap HM5.out) (by simp; omega)
          have hs6 := (hs5.ext e53).chgNo (by simp; omega) hnb ch6
          have hi6 := (hi5.ext e53).chgNo hnb ch6
          have hi7 := (i5.ext e53).chgNo hnb ch6
          have hx6 : Ext w wc := (hx5.trans e53).chgTrans ch6 (by intro i hi; have := hx5.size; simp at hi; omega)
          clear hG0 hN0 hW0 e53 hnb HM5 hs5 hi5 i5 hx5 ch6 cA0 cA1 HA
          have HB := Lib.hid i6; have HB7 := Lib.hid hi7
          clear i6 hi7
          generalize toldN κ er T = y at *
          generalize toldB κ T = ob at *
          have g0 := cell_of_heap (o := 0) hG rfl
          have g1 := cell_of_heap (o := 1) hG rfl
          have n0 := cell_of_heap (o := 0) hN rfl
          have n1 := cell_of_heap (o := 1) hN rfl
          have n2 := cell_of_heap (o := 2) hN rfl
          have v0 := cell_of_heap (o := 0) hW rfl
          have v1 := cell_of_heap (o := 1) hW rfl
          have m0 := cell_of_heap (o := 0) hM rfl
          have m1 := cell_of_heap (o := 1) hM rfl
          have m2 := cell_of_heap (o := 2) hM rfl
          have mf0 := free_of_heap (o := 0) hM
          have mf1 := free_of_heap (o := 1) hM
          have mf2 := free_of_heap (o := 2) hM
          have HM := Lib.hid hM
          clear hG hN hW hM
          have hzm := (hi6.cap).2.2.1
          have hzn := (hi6.cap).2.1
          have hat6 : T.2.1 ≤ zs.length := by obtain ⟨_, _, _, h⟩ := hr6; exact h
          clear hκ hκ2 hκ0 hκ7 hlA hlA1 hlA2 hlM hc1 hc2 hr8 hKb
          go_wp2
          go_quiet ((first
            | (go_at_call 12; exact Calls.quiet_of (same_drew _ _ ob ob _ (HB.out.ext ((Ext.refl _).drewN _)) (HB7.out.ext ((Ext.refl _).drewN _))))
            | (go_at_call 19; exact Calls.quiet_of (left_drew p _ _ _ _ (hr6.ext ((Ext.refl _).drewN _))))
            | (go_at_call 20; exact Calls.quiet_of (err_drew p _ _ _ _ (hr6.ext ((Ext.refl _).drewN _))))))
          go_wp2_with fail
          go_roundw
          case rel =>
            have hb3 : ∀ (x y z : Value) (n1 : Nat), Chg [w4.heap.size] wc ((((wc.drewN n1).setCell ⟨w4.heap.size, 0, none⟩ x).setCell ⟨w4.heap.size, 1, none⟩ y).setCell ⟨w4.heap.size, 2, none⟩ z) := fun x y z n1 =>
              (((((Ext.refl wc).drewN n1).chg [w4.heap.size]).setCell (by simp) _).setCell (by simp) _).setCell (by simp) _
            have hnM : NoBytes wc [w4.heap.size] := NoBytes.cons HM.out (by intro u hu z; simp at hu; rcases hu with rfl | rfl | rfl <;> (intro h; cases h)) (NoBytes.nil _)
            refine ⟨k + 1, T.2.1, T.2.2, a, c, by omega, by go_num, hr6.chgNo (by simp; omega) hnM (hb3 _ _ _ _), hs6.chgNo (by simp; omega) hnM (hb3 _ _ _ _), ?_, hi6.chgNo hnM (hb3 _ _ _ _), hx6.chgTrans (hb3 _ _ _ _) (by intro i hi; have := e04.size; simp at hi; omega)⟩
            exact heap_set (heap_set (heap_set (w := wc.drewN _) HM.out))
          case measure => simp [intOf]; omega
    · go_wp2_with fail
      refine (left_any q _ _ _ _ hs).mono ?_
      rintro e w7 ⟨rfl, e7⟩
      go_wp2_with fail
      refine (err_any q _ _ _ _ (hs.ext e7)).mono ?_
      rintro e w8 ⟨rfl, rfl⟩
      go_wp2_with fail
      go_ret
      exact ⟨by simp, hx.trans e7⟩

theorem cells_ask : Try.prog.cellsOf 53 = 2 := by kernel_rfl
theorem flat_ask : flat Try.prog 5 53 = some [.int .i64, .int .i64] := by kernel_rfl

theorem pairs_of {P : Program} {w : World} : ∀ (css : List (List Value)), (∀ cs, cs ∈ css → Fits (CellIs P w) [.int .i64, .int .i64] cs) →
    ∃ l : List (Int × Int), l.length = css.length ∧ css.flatten = (l.flatMap fun p => [.int .i64 p.1, .int .i64 p.2]) ∧ ∀ p ∈ l, (Lit.int .i64 p.1).wf = true ∧ (Lit.int .i64 p.2).wf = true
  | [], _ => ⟨[], rfl, rfl, by simp⟩
  | cs :: css, h => by
    obtain ⟨l, h1, h2, h3⟩ := pairs_of css fun c hc => h c (by simp [hc])
    obtain ⟨v0, r0, rfl, ⟨x, rfl, hx⟩, k0⟩ := (h cs (by simp)).cons_inv
    obtain ⟨v1, r1, rfl, ⟨y, rfl, hy⟩, k1⟩ := k0.cons_inv
    have := k1.nil_inv
    subst this
    refine ⟨(x, y) :: l, by simp [h1], by simp [h2], fun p hp => ?_⟩
    rcases List.mem_cons.1 hp with rfl | hp
    · exact ⟨hx, hy⟩
    · exact h3 p hp

theorem reads_arg (W : World) (v0 v1 : Value) (h0 : ArgIs Try.prog W 22 v0) (h1 : ArgIs Try.prog W 49 v1) :
    Calls Try.prog 6 #[v0, v1] W fun e w' => e = .returned (.bool true) ∧ Ext W w' := by
  obtain ⟨zs, hi, hb⟩ := h0.ints Try.underlying22 Try.underlying5 cells_u8 bytes_u8
  obtain ⟨css, hs, hf⟩ := h1.elems 5 Try.underlying49 flat_ask cells_ask (by decide)
  obtain ⟨l, hl1, hl2, hl3⟩ := pairs_of css hf
  refine reads_walk v0 v1 zs l W hi ⟨?_, hl3⟩ (by omega)
  rw [hl1, ← hl2]
  exact hs

end Go.Proofs.Ytooieiehmffgdaa
