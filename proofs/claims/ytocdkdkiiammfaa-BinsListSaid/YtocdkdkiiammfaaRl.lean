/- The document's list of a tile's strokes, and how many strokes lie within. Conditions: each theorem's own premises. -/
import Derived.Test.YtocdkdkiiammfaaBinA2
namespace Go.Proofs.Ytocdkdkiiammfaa
open Go.RowKit
set_option linter.unusedVariables false
set_option maxRecDepth 100000
set_option linter.unusedSimpArgs false
attribute [local go_sem ↓] Ld_Sk St_Sk

/-- Does a stroke lie in a tile? -/
def inT (W H : Nat) (t : Int) (q : Sk) : Bool := inB W H q.x q.y && decide (tlV W q.x q.y = t)
theorem filt_snoc {α : Type} (f : α → Bool) {L : List α} {k : Nat} {q : α} (hq : L[k]? = some q) : (L.take (k + 1)).filter f = (L.take k).filter f ++ (if f q then [q] else []) := by
  rw [List.take_add_one, hq, List.filter_append]
  congr 1
  cases h : f q <;> simp [h]
/-- What holds while a tile's strokes are gathered. -/
structure GInv (W H : Nat) (t : Int) (L : List (Sk × Value)) (w6 wr : World) (k : Nat) (u : Value) (Lo : List (Sk × Value)) : Prop where
  l : Lo = (L.take k).filter fun q => inT W H t q.1
  o : wr.ownsRow w6.heap.size 46 14 u Lo.length (Lo.flatMap skC)
  x : Ext w6 wr
theorem GInv.skip {W H : Nat} {t : Int} {L : List (Sk × Value)} {w wr w' : World} {k : Nat} {u : Value} {Lo : List (Sk × Value)} (h : GInv W H t L w wr k u Lo) (x : Ext wr w') {q : Sk × Value} (hq : L[k]? = some q) (hn : inT W H t q.1 = false) : GInv W H t L w w' (k + 1) u Lo :=
  ⟨by rw [filt_snoc _ hq, hn, ← h.l]; simp, owns_ext h.o x, h.x.trans x⟩
theorem GInv.le {W H : Nat} {t : Int} {L : List (Sk × Value)} {w wr : World} {k : Nat} {u : Value} {Lo : List (Sk × Value)} (h : GInv W H t L w wr k u Lo) : Lo.length ≤ k := by
  rw [h.l]
  exact Nat.le_trans (List.length_filter_le _ _) (by rw [List.length_take]; omega)
theorem GInv.put {W H : Nat} {t : Int} {L : List (Sk × Value)} {w wr w7 w9 : World} {k : Nat} {u v9 : Value} {Lo : List (Sk × Value)} (h : GInv W H t L w wr k u Lo) (x : Ext wr w7) {q : Sk × Value} (hq : L[k]? = some q) (hn : inT W H t q.1 = true)
    (ho : w9.ownsRow w.heap.size 46 14 v9 (Lo.length + 1) (Lo.flatMap skC ++ skC q)) (hg : w7.grownBy w9 u.ownBlock) : GInv W H t L w w9 (k + 1) v9 (Lo ++ [q]) :=
  ⟨by rw [filt_snoc _ hq, hn, ← h.l]; simp, by rw [List.length_append, List.flatMap_append]; simpa using ho, (h.x.trans x).grown hg (fun b hb => owns_base h.o b hb)⟩
theorem inT_no {W H : Nat} {t : Int} {q : Sk} (h : inB W H q.x q.y = false) : inT W H t q = false := by unfold inT; rw [h]; rfl
theorem inT_ne {W H : Nat} {t : Int} {q : Sk} (h : ¬ tlV W q.x q.y = t) : inT W H t q = false := by unfold inT; rw [decide_eq_false h, Bool.and_false]
theorem inT_yes {W H : Nat} {t : Int} {q : Sk} (h : inB W H q.x q.y = true) (k : tlV W q.x q.y = t) : inT W H t q = true := by unfold inT; rw [h, decide_eq_true k]; rfl
theorem skc_one (q : Sk) (va : Option Addr) (n vc : Nat) : ∀ u ∈ skC (q, .slice va n vc), u.oneCell' = true := by
  intro u hu
  simp [skC] at hu
  rcases hu with rfl | rfl | rfl | rfl | rfl | rfl | rfl | rfl | rfl | rfl | rfl | rfl | rfl | rfl <;> rfl
set_option maxHeartbeats 4000000 in
theorem rlist_any (W H : Nat) (t : Int) (v : Value) (L : List (Sk × Value)) (w : World) (hW : W ≤ 64) (hH : H ≤ 64) (hL : SksAt w v L) (hll : L.length ≤ 1000) :
    Calls Try.prog 18 #[.int .i64 W, .int .i64 H, .int .i64 t, v] w fun e w' => ∃ u, e = .returned u ∧ w'.ownsRow w.heap.size 46 14 u (L.filter fun q => inT W H t q.1).length ((L.filter fun q => inT W H t q.1).flatMap skC) ∧ Ext w w' := by
  obtain ⟨i0, hi, hz0, hz1, hz2⟩ := info_parts info_sk3
  have HL := Lib.hid hL
  have HW := Lib.hid (And.intro hW hH)
  obtain ⟨_, av, cap, rfl, hln, hlc, _, _⟩ := hL.1
  have hcm : (L.length : Int) ≤ 1000 := by omega
  clear hL hln hlc hW hH
  go_enter Try.func18, Try.ntmps18
  go_wp2_with fail
  go_loopw [9, 15] (fun u i wr => ∃ (k : Nat) (Lo : List (Sk × Value)), k ≤ L.length ∧ i = .int .i64 k ∧ Hid (GInv W H t L w wr k u Lo)) (fun _ i _ => L.length - (intOf i).toNat)
  case atStart => exact ⟨0, [], Nat.zero_le _, rfl, Lib.hid ⟨rfl, World.ownsRow_nil _ _ _ _, Ext.refl _⟩⟩
  case round =>
    rename World => wr
    obtain ⟨k, Lo, hk, rfl, HI⟩ := hrel
    obtain ⟨ua, uc, rfl⟩ := ownsB_slice HI.out.o
    by_cases hlt : k < L.length
    · have hki : (k : Int) < (L.length : Int) := by omega
      obtain ⟨q, hq⟩ : ∃ q, L[k]? = some q := ⟨_, List.getElem?_eq_getElem hlt⟩
      have HLR := Lib.hid (HL.out.ext HI.out.x)
      obtain ⟨b, off, rfl, _, _⟩ := HLR.out.1.pos (by omega)
      have hld := sk_get HLR.out hq
      obtain ⟨va, vc, he⟩ := sk_slice (HLR.out.2 q (List.mem_of_getElem? hq))
      obtain ⟨q, vv⟩ := q
      simp only at he
      subst he
      obtain ⟨w6, hst6, h6, hx6⟩ := newStroke wr (q, .slice va q.vars.length vc) (by cases va <;> rfl)
      have HX6 := Lib.hid hx6
      have HQ := Lib.hid hq
      have e0 : w6.cell? ⟨wr.heap.size, 0, none⟩ = some (.int .i64 q.x) := cell_of_heap h6 rfl
      have e1 : w6.cell? ⟨wr.heap.size, 1, none⟩ = some (.int .i64 q.y) := cell_of_heap h6 rfl
      have n6 := heap_lt h6
      have H6 := Lib.hid h6
      have HTL := Lib.hid (rtile_any W H q.x q.y w6 HW.out.1 HW.out.2)
      clear h6 hx6 hq
      cases hin : inB W H q.x q.y
      · rw [hin] at HTL
        have HTL : Hid (Calls Try.prog 9 #[.int .i64 W, .int .i64 H, .int .i64 q.x, .int .i64 q.y] w6 fun e w' => e = .returned (.int .i64 (-1)) ∧ w6 = w') := HTL
        have HN := Lib.hid (inT_no (t := t) hin)
        clear hin
        go_wp2_with (go_at_call 9; refine HTL.out.mono ?_; rintro _ _ ⟨rfl, rfl⟩)
        go_roundw
        case rel => exact ⟨k + 1, Lo, by omega, by go_num, Lib.hid (HI.out.skip HX6.out HQ.out HN.out)⟩
        case measure => simp [intOf]; omega
      · have ht0 := (tile_lt hin HW.out.1).1
        rw [hin] at HTL
        obtain ⟨T, hT⟩ : ∃ T, tlV W q.x q.y = T := ⟨_, rfl⟩
        rw [hT] at HTL ht0
        have HTL : Hid (Calls Try.prog 9 #[.int .i64 W, .int .i64 H, .int .i64 q.x, .int .i64 q.y] w6 fun e w' => e = .returned (.int .i64 T) ∧ w6 = w') := HTL
        by_cases hTt : T = t
        · have HN := Lib.hid (inT_yes (t := t) hin (hT.trans hTt))
          subst hTt
          clear hin hT
          have hl6 : (@Classical.epsilon _ neF (LdF 46 (.pointer (some ⟨wr.heap.size, 0, none⟩)))).run Try.prog w6 = .ok (.agg #[.int .i64 q.x, .int .i64 q.y, .int .i32 q.z, .int .i32 q.iw, .bool q.front, .int .i32 q.pt.a, .int .i32 q.pt.b, .int .i32 q.pt.c, .int .i32 q.pt.d, .slice va q.vars.length vc, .int .i32 q.col.a, .int .i32 q.col.b, .int .i32 q.col.c, .int .i32 q.col.d]) w6 := sk_loadB H6.out
          have HO6 := Lib.hid (owns_ext HI.out.o HX6.out)
          have HO7 := Lib.hid (owns_ext HO6.out ((Ext.refl _).alloc (.cells #[.int .i64 q.x, .int .i64 q.y, .int .i32 q.z, .int .i32 q.iw, .bool q.front, .int .i32 q.pt.a, .int .i32 q.pt.b, .int .i32 q.pt.c, .int .i32 q.pt.d, .slice va q.vars.length vc, .int .i32 q.col.a, .int .i32 q.col.b, .int .i32 q.col.c, .int .i32 q.col.d] 46)))
          have hlo := HI.out.le
          have hsz := (HI.out.x.trans HX6.out).size
          go_wp2_with (first
            | (go_at_call 9; refine HTL.out.mono ?_; rintro _ _ ⟨rfl, rfl⟩)
            | (at_builtin; refine wpList_append_own _ rfl _ _ 34 rfl w.heap.size 46 i0 (.agg #[.int .i64 0, .int .i64 0, .int .i32 0, .int .i32 0, .bool false, .int .i32 0, .int .i32 0, .int .i32 0, .int .i32 0, .slice none 0 0, .int .i32 0, .int .i32 0, .int .i32 0, .int .i32 0]) 14 88 Try.underlying34 hi hz0 hz1 hz2 rfl (by decide) _ _ _ rfl HO7.out ⟨w6.heap.size, 0, none⟩ 1 1 (skC (q, .slice va q.vars.length vc)) rfl rfl (World.news_of_block (heap_alloc_new _ _)) (skc_one _ _ _ _) ?c3 ?c4 ?c5 ?_))
          case c3 => unfold maxLen; omega
          case c4 => omega
          case c5 => simp; omega
          intro v9 w9 hown9 hgrow9 _
          obtain ⟨a9, c9, rfl⟩ := ownsB_slice hown9
          have HG9 := Lib.hid (HI.out.put (HX6.out.alloc _) HQ.out HN.out hown9 hgrow9)
          clear hown9 hgrow9
          go_wp2_with fail
          go_roundw
          case rel => exact ⟨k + 1, _, by omega, by go_num, HG9⟩
          case measure => simp [intOf]; omega
        · have HN : Hid (inT W H t q = false) := Lib.hid (inT_ne (fun e => hTt (hT.symm.trans e)))
          clear hin hT
          go_wp2_with (go_at_call 9; refine HTL.out.mono ?_; rintro _ _ ⟨rfl, rfl⟩)
          go_roundw
          case rel => exact ⟨k + 1, Lo, by omega, by go_num, Lib.hid (HI.out.skip HX6.out HQ.out HN.out)⟩
          case measure => simp [intOf]; omega
    · obtain rfl : k = L.length := by omega
      go_wp2_with fail
      go_ret
      have hl := HI.out.l
      rw [List.take_length] at hl
      exact ⟨_, rfl, by rw [← hl]; exact HI.out.o, HI.out.x⟩
theorem cntS_take {W H : Nat} {L : List (Sk × Value)} {k : Nat} {q : Sk × Value} (hq : L[k]? = some q) : cntS W H ((L.take (k + 1)).map (·.1)) = cntS W H ((L.take k).map (·.1)) + (if inB W H q.1.x q.1.y then 1 else 0) := by rw [take_map _ _ _ hq, cntS_snoc]
set_option maxHeartbeats 4000000 in
theorem rwithin_any (W H : Nat) (v : Value) (L : List (Sk × Value)) (w : World) (hW : W ≤ 64) (hH : H ≤ 64) (hL : SksAt w v L) (hll : L.length ≤ 1000) :
    Calls Try.prog 16 #[.int .i64 W, .int .i64 H, v] w fun e w' => e = .returned (.int .i64 (cntS W H (L.map (·.1)) : Nat)) ∧ Ext w w' := by
  have HL := Lib.hid hL
  have HW := Lib.hid (And.intro hW hH)
  obtain ⟨_, av, cap, rfl, hln, hlc, _, _⟩ := hL.1
  have hcm : (L.length : Int) ≤ 1000 := by omega
  clear hL hln hlc hW hH
  go_enter Try.func16, Try.ntmps16
  go_wp2_with fail
  go_loopw [7, 12] (fun m i wr => ∃ k : Nat, k ≤ L.length ∧ i = .int .i64 k ∧ m = .int .i64 (cntS W H ((L.take k).map (·.1)) : Nat) ∧ Hid (Ext w wr)) (fun _ i _ => L.length - (intOf i).toNat)
  case atStart => exact ⟨0, Nat.zero_le _, rfl, rfl, Lib.hid (Ext.refl _)⟩
  case round =>
    rename World => wr
    obtain ⟨k, hk, rfl, rfl, HX⟩ := hrel
    by_cases hlt : k < L.length
    · have hki : (k : Int) < (L.length : Int) := by omega
      obtain ⟨q, hq⟩ : ∃ q, L[k]? = some q := ⟨_, List.getElem?_eq_getElem hlt⟩
      have HLR := Lib.hid (HL.out.ext HX.out)
      obtain ⟨b, off, rfl, _, _⟩ := HLR.out.1.pos (by omega)
      have hld := sk_get HLR.out hq
      obtain ⟨va, vc, he⟩ := sk_slice (HLR.out.2 q (List.mem_of_getElem? hq))
      obtain ⟨w6, hst6, h6, hx6⟩ := newStroke wr q (by rw [he]; cases va <;> rfl)
      have HX6 := Lib.hid (HX.out.trans hx6)
      have e0 : w6.cell? ⟨wr.heap.size, 0, none⟩ = some (.int .i64 q.1.x) := cell_of_heap h6 rfl
      have e1 : w6.cell? ⟨wr.heap.size, 1, none⟩ = some (.int .i64 q.1.y) := cell_of_heap h6 rfl
      have n6 := heap_lt h6
      have HTL := Lib.hid (rtile_any W H q.1.x q.1.y w6 HW.out.1 HW.out.2)
      have hcs := cntS_take (W := W) (H := H) hq
      have hcb : cntS W H ((L.take k).map (·.1)) ≤ L.length := by have := cntS_le W H ((L.take k).map (·.1)); rw [List.length_map, List.length_take] at this; omega
      obtain ⟨C, hC⟩ : ∃ C, cntS W H ((L.take k).map (·.1)) = C := ⟨_, rfl⟩
      rw [hC] at hcs hcb
      rw [hC]
      have HCS := Lib.hid hcs
      clear h6 hx6 hq he hcs hC
      cases hin : inB W H q.1.x q.1.y
      · rw [hin] at HTL HCS
        have HTL : Hid (Calls Try.prog 9 #[.int .i64 W, .int .i64 H, .int .i64 q.1.x, .int .i64 q.1.y] w6 fun e w' => e = .returned (.int .i64 (-1)) ∧ w6 = w') := HTL
        clear hin
        go_wp2_with (go_at_call 9; refine HTL.out.mono ?_; rintro _ _ ⟨rfl, rfl⟩)
        go_roundw
        case rel => exact ⟨k + 1, by omega, by go_num, by rw [HCS.out]; rfl, HX6⟩
        case measure => simp [intOf]; omega
      · have ht0 := (tile_lt hin HW.out.1).1
        rw [hin] at HTL HCS
        obtain ⟨T, hT⟩ : ∃ T, tlV W q.1.x q.1.y = T := ⟨_, rfl⟩
        rw [hT] at HTL ht0
        have HTL : Hid (Calls Try.prog 9 #[.int .i64 W, .int .i64 H, .int .i64 q.1.x, .int .i64 q.1.y] w6 fun e w' => e = .returned (.int .i64 T) ∧ w6 = w') := HTL
        clear hin hT
        go_wp2_with (go_at_call 9; refine HTL.out.mono ?_; rintro _ _ ⟨rfl, rfl⟩)
        go_roundw
        case rel => exact ⟨k + 1, by omega, by go_num, by rw [HCS.out]; exact (by go_num), HX6⟩
        case measure => simp [intOf]; omega
    · obtain rfl : k = L.length := by omega
      go_wp2_with fail
      go_ret
      exact ⟨by rw [List.take_length]; rfl, HX.out⟩
end Go.Proofs.Ytocdkdkiiammfaa
