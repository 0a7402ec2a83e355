/- Bins with strokes, in their blocks; Add at whatever strokes. Conditions: each theorem's own premises. -/
import Derived.Test.YtocdkdkiiammfaaBinL
import Derived.Deep.AppendLies
import Derived.Deep.DeepCutAuto
namespace Go.Proofs.Ytocdkdkiiammfaa
open Go.RowKit
set_option linter.unusedVariables false
set_option maxRecDepth 100000
set_option linter.unusedSimpArgs false

/-- A tile: its slice, its strokes and their slices. -/
abbrev Tl := Value × List (Sk × Value)
/-- The blocks that adding may write. -/
def binM (p g : Nat) (T : List Tl) : List Nat := p :: g :: T.filterMap (·.1.ownBlock)
/-- Bins with strokes. -/
structure BinAt (base : Nat) (w : World) (p g W H : Nat) (T : List Tl) (n : Int) : Prop where
  b : BAt w p W H (.slice (some ⟨g, 0, none⟩) T.length T.length) n
  r : w.heap[g]? = some (.cells (T.map (·.1)).toArray 34 (0, 0))
  t : ∀ (i : Nat) (x : Tl), T[i]? = some x → SksMy base w x.1 x.2
  d : ∀ (i j : Nat) (x y : Tl), T[i]? = some x → T[j]? = some y → i ≠ j → ∀ k, x.1.ownBlock = some k → y.1.ownBlock ≠ some k
  l : T.length = acr W * acr H
  h1 : base ≤ w.heap.size
  h2 : base ≤ p
  h3 : base ≤ g
theorem own_type {w : World} {base : Nat} {e : TypeId} {size n : Nat} {v : Value} {xs : List Value} (h : w.ownsRow base e size v n xs) {k : Nat} (hk : v.ownBlock = some k) : ∃ cur, w.heap[k]? = some (.cells cur e (0, 0)) ∧ base ≤ k := by
  rcases h.2 with ⟨rfl, _⟩ | ⟨g, cap, cur, rfl, hb, hh, _⟩
  · simp [Value.ownBlock] at hk
  · simp only [Value.ownBlock, Option.some.injEq] at hk
    subst hk
    exact ⟨cur, hh, hb⟩
theorem own_ne {w : World} {base : Nat} {e e' : TypeId} {size n k : Nat} {v : Value} {xs : List Value} {cs : Array Value} (h : w.ownsRow base e size v n xs) (hk : w.heap[k]? = some (.cells cs e' (0, 0))) (he : e ≠ e') : v.ownBlock ≠ some k := fun hv => by
  obtain ⟨cur, hc, _⟩ := own_type h hv
  rw [hk] at hc
  simp only [Option.some.injEq, Obj.cells.injEq] at hc
  exact he hc.2.1.symm
theorem sks_ext {base : Nat} {w w' : World} {v : Value} {L : List (Sk × Value)} (h : SksMy base w v L) (x : Ext w w') : SksMy base w' v L := ⟨owns_ext h.1 x, fun q hq => owns_ext (h.2 q hq) x⟩
theorem sks_chg {M : List Nat} {base : Nat} {w w' : World} {v : Value} {L : List (Sk × Value)} (h : SksMy base w v L) (x : Chg M w w') (hM : ∀ m ∈ M, ∃ cs e, w.heap[m]? = some (.cells cs e (0, 0)) ∧ e ≠ 46 ∧ e ≠ 41) : SksMy base w' v L :=
  ⟨owns_chg h.1 x fun b hb hm => by
    obtain ⟨cs, e, he, h1, h2⟩ := hM b hm
    exact own_ne h.1 he (fun h => h1 h.symm) hb, fun q hq => owns_chg (h.2 q hq) x fun b hb hm => by
    obtain ⟨cs, e, he, h1, h2⟩ := hM b hm
    exact own_ne (h.2 q hq) he (fun h => h2 h.symm) hb⟩
theorem BinAt.ext {base : Nat} {w w' : World} {p g W H : Nat} {T : List Tl} {n : Int} (h : BinAt base w p g W H T n) (x : Ext w w') : BinAt base w' p g W H T n :=
  ⟨h.b.ext x, x.heap h.r, fun i y hy => sks_ext (h.t i y hy) x, h.d, h.l, Nat.le_trans h.h1 x.size, h.h2, h.h3⟩
/-- Where other blocks turn, whose types are others. -/
theorem BinAt.chg {M : List Nat} {base : Nat} {w w' : World} {p g W H : Nat} {T : List Tl} {n : Int} (h : BinAt base w p g W H T n) (x : Chg M w w') (hM : ∀ m ∈ M, ∃ cs e, w.heap[m]? = some (.cells cs e (0, 0)) ∧ e ≠ 46 ∧ e ≠ 41 ∧ e ≠ 57 ∧ e ≠ 34) : BinAt base w' p g W H T n :=
  ⟨h.b.chg x fun hm => by
    obtain ⟨cs, e, he, _, _, h3, _⟩ := hM _ hm
    have := h.b.symm.trans he
    simp only [Option.some.injEq, Obj.cells.injEq] at this
    exact h3 this.2.1.symm, x.heap h.r fun hm => by
    obtain ⟨cs, e, he, _, _, _, h4⟩ := hM _ hm
    have := h.r.symm.trans he
    simp only [Option.some.injEq, Obj.cells.injEq] at this
    exact h4 this.2.1.symm, fun i y hy => sks_chg (h.t i y hy) x (fun m hm => by
    obtain ⟨cs, e, he, h1, h2, _⟩ := hM m hm
    exact ⟨cs, e, he, h1, h2⟩), h.d, h.l, Nat.le_trans h.h1 x.size, h.h2, h.h3⟩
theorem BinAt.ne {base : Nat} {w : World} {p g W H : Nat} {T : List Tl} {n : Int} (h : BinAt base w p g W H T n) : p ≠ g := fun e => by
  subst e
  have := h.b.symm.trans h.r
  simp only [Option.some.injEq, Obj.cells.injEq] at this
  exact absurd this.2.1 (by decide)
/-- What lies in the tiles, in plain words. -/
def skel (T : List Tl) : List (List Sk) := T.map fun t => t.2.map (·.1)
/-- A stroke is added. -/
def addS (W H : Nat) (T : List (List Sk)) (s : Sk) : List (List Sk) := if inB W H s.x s.y then T.set (tlV W s.x s.y).toNat (T.getD (tlV W s.x s.y).toNat [] ++ [s]) else T
theorem addS_len (W H : Nat) (T : List (List Sk)) (s : Sk) : (addS W H T s).length = T.length := by
  unfold addS
  split
  · rw [List.length_set]
  · rfl
theorem addS_fold_len (W H : Nat) : ∀ (L : List Sk) (T : List (List Sk)), (L.foldl (addS W H) T).length = T.length
  | [], _ => rfl
  | s :: L, T => (addS_fold_len W H L _).trans (addS_len W H T s)
/-- How many strokes lie in a tile. -/
def cntS (W H : Nat) (L : List Sk) : Nat := (L.filter fun s => inB W H s.x s.y).length
theorem cntS_snoc (W H : Nat) (L : List Sk) (s : Sk) : cntS W H (L ++ [s]) = cntS W H L + (if inB W H s.x s.y then 1 else 0) := by
  unfold cntS
  rw [List.filter_append, List.length_append]
  congr 1
  cases h : inB W H s.x s.y <;> simp [h]
theorem cntS_le (W H : Nat) (L : List Sk) : cntS W H L ≤ L.length := List.length_filter_le _ _
/-- A tile's stroke appended. -/
theorem binAt_app {base : Nat} {w w7 w8 : World} {p g W H t : Nat} {T : List Tl} {n : Int} (h : BinAt base w p g W H T n) {x : Tl} (hx : T[t]? = some x) (hx7 : Ext w w7) {q : Sk × Value} (hq : w7.ownsRow base 41 4 q.2 q.1.vars.length (v4s q.1.vars))
    {gg cap : Nat} (hown : w8.ownsRow base 46 14 (.slice (some ⟨gg, 0, none⟩) (x.2.length + 1) cap) (x.2.length + 1) (x.2.flatMap skC ++ skC q)) (hgrow : w7.grownBy w8 x.1.ownBlock) (hat : x.1.ownBlock = some gg ∨ gg = w7.heap.size) :
    BinAt base (w8.setCell ⟨g, t, none⟩ (.slice (some ⟨gg, 0, none⟩) (x.2.length + 1) cap)) p g W H (T.set t (.slice (some ⟨gg, 0, none⟩) (x.2.length + 1) cap, x.2 ++ [q])) n ∧
    Chg (binM p g T) w (w8.setCell ⟨g, t, none⟩ (.slice (some ⟨gg, 0, none⟩) (x.2.length + 1) cap)) := by
  have h7 := h.ext hx7
  have hM := h7.t t x hx
  have ht := (List.getElem?_eq_some_iff.1 hx).1
  have hne := h.ne
  -- blocks of other types stay
  have stay : ∀ (k : Nat) (cs : Array Value) (e : TypeId), w7.heap[k]? = some (.cells cs e (0, 0)) → e ≠ 46 → w8.heap[k]? = some (.cells cs e (0, 0)) := fun k cs e hk he =>
    (hgrow.block k (heap_lt hk) (fun hb => own_ne hM.1 hk (fun h => he h.symm) hb.symm)).trans hk
  have hb8 : BAt w8 p W H (.slice (some ⟨g, 0, none⟩) T.length T.length) n := stay p _ _ h7.b (by decide)
  have hr8 := stay g _ _ h7.r (by decide)
  have hcs : Chg [g] w8 (w8.setCell ⟨g, t, none⟩ (.slice (some ⟨gg, 0, none⟩) (x.2.length + 1) cap)) := (Chg.refl _ _).setCell (p := ⟨g, t, none⟩) (by simp) _
  have tyg : ∀ m ∈ [g], ∃ cs e, w8.heap[m]? = some (.cells cs e (0, 0)) ∧ e ≠ 46 ∧ e ≠ 41 := fun m hm => by
    obtain rfl := List.mem_singleton.1 hm
    exact ⟨_, _, hr8, by decide, by decide⟩
  have hvec : ∀ (u : Value) (l : Nat) (xs : List Value), w7.ownsRow base 41 4 u l xs → w8.ownsRow base 41 4 u l xs := fun u l xs hu => owns_grow hu hM.1 (by decide) hgrow
  have hs8 : ∀ m, m < w7.heap.size → m < w8.heap.size := fun m hm => Nat.lt_of_lt_of_le hm hgrow.size
  refine ⟨⟨?_, ?_, ?_, ?_, ?_, ?_, h.h2, h.h3⟩, ?_⟩
  · rw [List.length_set]
    exact hb8.chg hcs (by simp; exact hne)
  · rw [List.map_set]
    have := heap_set (k := t) (u := .slice (some ⟨gg, 0, none⟩) (x.2.length + 1) cap) hr8
    rw [List.setIfInBounds_toArray] at this
    exact this
  · intro i y hy
    by_cases e : i = t
    · subst e
      rw [List.getElem?_set_self ht] at hy
      cases hy
      refine sks_chg ⟨?_, ?_⟩ hcs tyg
      · show w8.ownsRow base 46 14 (.slice (some ⟨gg, 0, none⟩) (x.2.length + 1) cap) (x.2 ++ [q]).length ((x.2 ++ [q]).flatMap skC)
        rw [List.length_append, List.flatMap_append]
        simpa using hown
      · intro q2 hq2
        rcases List.mem_append.1 hq2 with hq2 | hq2
        · exact hvec _ _ _ (hM.2 q2 hq2)
        · obtain rfl := List.mem_singleton.1 hq2
          exact hvec _ _ _ hq
    · rw [List.getElem?_set_ne (fun h => e h.symm)] at hy
      have hy7 := h7.t i y hy
      refine sks_chg ⟨?_, fun q2 hq2 => hvec _ _ _ (hy7.2 q2 hq2)⟩ hcs tyg
      refine ⟨hy7.1.1, ?_⟩
      rcases hy7.1.2 with h2 | ⟨g', cap', cur', e1, hb', hh', rest⟩
      · exact .inl h2
      · refine .inr ⟨g', cap', cur', e1, hb', (hgrow.block g' (heap_lt hh') (fun hb => ?_)).trans hh', rest⟩
        exact h.d i t y x hy hx e g' (by rw [e1]; rfl) hb.symm
  · intro i j a b ha hb hij k hk
    have key : ∀ (j : Nat) (b : Tl), (T.set t (.slice (some ⟨gg, 0, none⟩) (x.2.length + 1) cap, x.2 ++ [q]))[j]? = some b → j ≠ t → b.1.ownBlock ≠ some gg := fun j b hb hj hk => by
      rw [List.getElem?_set_ne (fun h => hj h.symm)] at hb
      rcases hat with hat | hat
      · exact h.d t j x b hx hb (fun h => hj h.symm) gg hat hk
      · obtain ⟨cur, hc, _⟩ := own_type (h7.t j b hb).1 hk
        have := heap_lt hc
        omega
    by_cases ei : i = t
    · subst ei
      rw [List.getElem?_set_self ht] at ha
      cases ha
      have hk : some gg = some k := hk
      rw [← hk]
      exact key j b hb (fun h => hij h.symm)
    · by_cases ej : j = t
      · subst ej
        rw [List.getElem?_set_self ht] at hb
        cases hb
        intro hkk
        have hkk : some gg = some k := hkk
        exact key i a ha ei (hk.trans hkk.symm)
      · rw [List.getElem?_set_ne (fun h => ei h.symm)] at ha
        rw [List.getElem?_set_ne (fun h => ej h.symm)] at hb
        exact h.d i j a b ha hb hij k hk
  · rw [List.length_set]; exact h.l
  · have := h7.h1
    have := hgrow.size
    have := hcs.size
    omega
  · refine ((hx7.chg _).grownM hgrow (fun k hk => ?_)).trans (hcs.mono (by simp [binM]))
    unfold binM
    exact List.mem_cons_of_mem _ (List.mem_cons_of_mem _ (List.mem_filterMap.2 ⟨x, List.mem_of_getElem? hx, hk⟩))
end Go.Proofs.Ytocdkdkiiammfaa
