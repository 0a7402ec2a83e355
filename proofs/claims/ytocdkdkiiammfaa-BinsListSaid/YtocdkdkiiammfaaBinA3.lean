/- Contracts of List and once. Conditions: each theorem's own premises. -/
import Derived.Test.YtocdkdkiiammfaaBinA2
import Derived.Deep.CutBlock
namespace Go.Proofs.Ytocdkdkiiammfaa
open Go.RowKit
set_option linter.unusedVariables false
set_option maxRecDepth 100000
set_option linter.unusedSimpArgs false
attribute [local go_sem ↓] Ld_Sk St_Sk

theorem sks_one (L : List (Sk × Value)) (h : ∀ q ∈ L, q.2.oneCell' = true) : ∀ u ∈ L.flatMap skC, u.oneCell' = true := by
  intro u hu
  obtain ⟨q, hq, hu⟩ := List.mem_flatMap.1 hu
  have h2 := h q hq
  simp [skC] at hu
  rcases hu with rfl | rfl | rfl | rfl | rfl | rfl | rfl | rfl | rfl | rfl | rfl | rfl | rfl | rfl <;> first | rfl | exact h2
set_option maxHeartbeats 2000000 in
theorem clones_any (u : Value) (L : List (Sk × Value)) (w : World) (h : SksAt w u L) (hb : L.length ≤ 100000) : Calls Try.prog 22 #[u] w fun e w' => ∃ v', e = .returned v' ∧ w'.ownsRow w.heap.size 46 14 v' L.length (L.flatMap skC) ∧ Ext w w' := by
  obtain ⟨j0, hj, hy0, hy1, hy2⟩ := info_parts info_sk3
  have H := Lib.hid h.1
  have HVO := Lib.hid (sks_one L (fun q hq => by obtain ⟨va, vc, e⟩ := sk_slice (h.2 q hq); rw [e]; cases va <;> rfl))
  obtain ⟨hlen, a, cap, rfl, hn, hc, hz, hp⟩ := h.1
  clear h
  have q22 : ∀ (w : World) (a : Option Addr) (n c n' c' : Nat), (binOp .eql 34 (.slice a n c) (.slice none n' c')).run Try.prog w = .ok (.bool a.isNone) w := fun w a n c n' c' => Lib.run_eql_slice_nil w _ _ a n c n' c' Try.underlying34
  cases a with
  | none =>
    have hl0 : L.length = 0 := by have := hz rfl; omega
    obtain rfl : L = [] := List.eq_nil_of_length_eq_zero hl0
    obtain rfl : cap = 0 := hz rfl
    clear hlen hp H HVO hz
    go_enter Try.func22, Try.ntmps22
    go_wp2
    go_ret
    exact ⟨_, rfl, World.ownsRow_nil _ _ _ _, Ext.refl _⟩
  | some ad =>
    clear hlen hp hz
    have H2 := Lib.hid (H.out.ext ((Ext.refl _).alloc (.cells #[] 46)))
    generalize L.flatMap skC = news at *
    generalize L.length = m at *
    go_enter Try.func22, Try.ntmps22
    go_wp2_with (at_builtin; refine wpList_append_all rfl _ _ 34 rfl w.heap.size 46 j0 (.agg #[.int .i64 0, .int .i64 0, .int .i32 0, .int .i32 0, .bool false, .int .i32 0, .int .i32 0, .int .i32 0, .int .i32 0, .slice none 0 0, .int .i32 0, .int .i32 0, .int .i32 0, .int .i32 0]) 14 88 Try.underlying34 hj hy0 hy1 hy2 rfl (by decide) _ _ _ rfl (World.ownsRow_made w #[] 0 (Nat.le_refl _) (Nat.zero_le _) (by simp)) m _ news rfl H2.out HVO.out ?c4 ?c5 ?c6 ?_)
    case c4 => unfold maxLen; omega
    case c5 => omega
    case c6 => simp
    intro v' w7 hown hgrow
    have hx67 : Ext w w7 := ((Ext.refl w).alloc _).grown hgrow (by intro k hk; simp [Value.ownBlock] at hk; omega)
    have HX := Lib.hid hx67
    have HO : Hid (w7.ownsRow w.heap.size 46 14 v' m news) := Lib.hid (by simpa using hown)
    clear hx67 hown hgrow
    go_wp2_with fail
    go_ret
    exact ⟨_, rfl, HO.out, HX.out⟩
/-- What a tile tells. -/
def tlL (T : List Tl) (t : Int) : List (Sk × Value) := if 0 ≤ t ∧ t < T.length then (T.getD t.toNat (.slice none 0 0, [])).2 else []
theorem tlL_mem {T : List Tl} {t : Int} {q : Sk × Value} (h : q ∈ tlL T t) : ∃ (i : Nat) (x : Tl), T[i]? = some x ∧ q ∈ x.2 := by
  unfold tlL at h
  split at h
  · rename_i ht
    have hl : t.toNat < T.length := by omega
    rw [List.getD_eq_getElem?_getD, List.getElem?_eq_getElem hl] at h
    exact ⟨t.toNat, _, List.getElem?_eq_getElem hl, h⟩
  · cases h
theorem tlL_skel (T : List Tl) (t : Int) : (tlL T t).map (·.1) = if 0 ≤ t ∧ t < T.length then (skel T).getD t.toNat [] else [] := by
  unfold tlL
  split
  · rename_i ht
    have hl : t.toNat < T.length := by omega
    rw [tl_getD T t.toNat (List.getElem?_eq_getElem hl), List.getD_eq_getElem?_getD, List.getElem?_eq_getElem hl]
    rfl
  · rfl
def ListPost (w : World) (T : List Tl) (t : Int) (e : Ending) (w' : World) : Prop := ∃ cb lv, e = .returned (.func (.func 23) #[] #[.pointer (some ⟨cb, 0, none⟩)]) ∧ w.heap.size ≤ cb ∧ w'.heap[cb]? = some (.cells #[lv] 34 (0, 0)) ∧ SksAt w' lv (tlL T t) ∧ (∀ k, lv.ownBlock = some k → w.heap.size ≤ k ∧ k < w'.heap.size) ∧ Ext w w'
set_option maxHeartbeats 2000000 in
theorem list_any (base p g W H : Nat) (T : List Tl) (n : Int) (t : Int) (w : World) (hb : BinAt base w p g W H T n) (hT : ∀ x ∈ T, x.2.length ≤ 100000) (hT2 : T.length ≤ 1000) : Calls Try.prog 14 #[.pointer (some ⟨p, 0, none⟩), .int .i64 t] w (ListPost w T t) := by
  have HB := Lib.hid hb
  have HT := Lib.hid (fun w' x' => tiles_any p W H T.length _ _ n w' (hb.ext x').b)
  by_cases h0 : 0 ≤ t
  · by_cases h1 : t < T.length
    · obtain ⟨i, rfl⟩ : ∃ i : Nat, t = i := ⟨t.toNat, by omega⟩
      obtain ⟨x, hx⟩ : ∃ x, T[i]? = some x := ⟨_, List.getElem?_eq_getElem (by omega)⟩
      have HTL : Hid (tlL T i = x.2) := Lib.hid (by unfold tlL; rw [if_pos ⟨h0, h1⟩, Int.toNat_natCast, List.getD_eq_getElem?_getD, hx]; rfl)
      have HXX := Lib.hid hx
      have hxl := hT x (List.mem_of_getElem? hx)
      have i1 : (T.length : Int) ≤ 1000 := by omega
      have i2 : (i : Int) < (T.length : Int) := h1
      clear hb hT hx h1 hT2
      go_enter Try.func14, Try.ntmps14
      go_upto_region 2 with fail
      obtain ⟨w1, hw1, hc1, hx1⟩ : ∃ w1, w.alloc (.cells #[.slice none 0 0] 34) = w1 ∧ w1.heap[w.heap.size]? = some (.cells #[.slice none 0 0] 34 (0, 0)) ∧ Ext w w1 := ⟨_, rfl, heap_alloc_new _ _, (Ext.refl _).alloc _⟩
      rw [hw1]
      have HB1 := Lib.hid (HB.out.ext hx1)
      have HX1 := Lib.hid hx1
      have HC1 := Lib.hid hc1
      have c2 : w1.cell? ⟨p, 2, none⟩ = some (.slice (some ⟨g, 0, none⟩) T.length T.length) := cell_of_heap HB1.out.b rfl
      have np := heap_lt HB1.out.b
      have cg : w1.cell? ⟨g, i, none⟩ = some x.1 := cell_of_heap HB1.out.r (by rw [List.getElem?_toArray, List.getElem?_map, HXX.out]; rfl)
      have ng := heap_lt HB1.out.r
      have HCL := Lib.hid (clones_any x.1 x.2 w1 (SksMy.at (HB1.out.t i x HXX.out)) hxl)
      have HTA := Lib.hid (HT.out w1 hx1)
      clear hw1 hc1 hx1
      go_wp2_with (first | (go_at_call 11; refine HTA.out.mono ?_; rintro _ _ ⟨rfl, rfl⟩) | (go_at_call 22; refine HCL.out.mono ?_; rintro _ w2 ⟨v2, rfl, ho2, hx2⟩; obtain ⟨a2, k2, rfl⟩ := ownsB_slice ho2; have hc2 := hx2.heap HC1.out; have e2 : w2.cell? ⟨w.heap.size, 0, none⟩ = some (.slice none 0 0) := cell_of_heap hc2 rfl; have f2 : w2.frozen? ⟨w.heap.size, 0, none⟩ = false := free_of_heap hc2; have n2 := heap_lt hc2; have HC2 := Lib.hid (heap_set (k := 0) (u := .slice a2 x.2.length k2) hc2); have HO2 := Lib.hid ho2; have HX2 := Lib.hid hx2; clear hc2 ho2 hx2))
      go_ret
      have hcs : Chg [w.heap.size] w2 (w2.setCell ⟨w.heap.size, 0, none⟩ (.slice a2 x.2.length k2)) := (Chg.refl _ _).setCell (p := ⟨w.heap.size, 0, none⟩) (by simp) _
      have hfree : ∀ b, (∃ cur e, w2.heap[b]? = some (.cells cur e (0, 0)) ∧ e ≠ 34) → b ∉ [w.heap.size] := fun b hb hm => by
        obtain ⟨cur, e, h1, h2⟩ := hb
        have := List.mem_singleton.1 hm
        subst this
        rw [HX2.out.heap HC1.out] at h1
        simp only [Option.some.injEq, Obj.cells.injEq] at h1
        exact h2 h1.2.1.symm
      have hmy := HB1.out.t i x HXX.out
      refine ⟨_, _, rfl, Nat.le_refl _, HC2.out, ?_, ?_, (HX1.out.trans HX2.out).chgTrans hcs (by simp)⟩
      · rw [HTL.out]
        refine ⟨(SlC.owned HO2.out).chg hcs (fun b hb _ => hfree b ?_), fun q hq => ((SlC.owned (hmy.2 q hq)).ext HX2.out).chg hcs (fun b hb _ => hfree b ?_)⟩
        · obtain ⟨cur, h1, _⟩ := own_type HO2.out hb
          exact ⟨cur, _, h1, by decide⟩
        · obtain ⟨cur, h1, _⟩ := own_type (hmy.2 q hq) hb
          exact ⟨cur, _, HX2.out.heap h1, by decide⟩
      · intro k hk
        obtain ⟨cur, h1, h2⟩ := own_type HO2.out hk
        have := HX1.out.size
        have := heap_lt h1
        have := hcs.size
        omega
    · have HTL : Hid (tlL T t = []) := Lib.hid (by unfold tlL; rw [if_neg (by omega)])
      have hlt : ¬ t < (T.length : Int) := h1
      clear hb hT h1
      go_enter Try.func14, Try.ntmps14
      go_wp2_with (go_at_call 11; refine (HT.out _ ((Ext.refl _).alloc _)).mono ?_; rintro _ _ ⟨rfl, rfl⟩)
      go_ret
      exact ⟨_, _, rfl, Nat.le_refl _, heap_alloc_new _ _, by rw [HTL.out]; exact ⟨SlC.nil _ _, by simp⟩, by simp [Value.ownBlock], (Ext.refl _).alloc _⟩
  · have HTL : Hid (tlL T t = []) := Lib.hid (by unfold tlL; rw [if_neg (by omega)])
    clear hb hT
    go_enter Try.func14, Try.ntmps14
    go_wp2_with fail
    go_ret
    exact ⟨_, _, rfl, Nat.le_refl _, heap_alloc_new _ _, by rw [HTL.out]; exact ⟨SlC.nil _ _, by simp⟩, by simp [Value.ownBlock], (Ext.refl _).alloc _⟩
end Go.Proofs.Ytocdkdkiiammfaa
