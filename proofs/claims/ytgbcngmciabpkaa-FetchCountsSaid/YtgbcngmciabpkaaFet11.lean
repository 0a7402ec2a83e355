/- Contract of fetch.Prims. Conditions: each theorem's own premises. -/
import Derived.Test.YtgbcngmciabpkaaFet10
import Derived.OwnWalkIn
import Derived.TacticsInMore
import Derived.Deep.AppendLies
import Derived.Deep.RegionHeld3
import Derived.Deep.RegionLaw
import Derived.Deep.DrawnRows
namespace Go.Proofs.Ytgbcngmciabpkaa
open Go.RowKit Go.ChangeShapes
set_option linter.unusedVariables false
attribute [local go_sem] Oper.semAt_some

theorem info_prim : (Try.prog.info? 51).map (fun i => (i.zero, i.size, i.bytes)) = some (some (.agg #[.int .i64 0, .int .i64 0, .int .i64 0, .int .i64 0]), 4, 32) := by kernel_rfl
theorem info_prim4 : (Try.prog.info? 51).map (·.size) = some 4 := by kernel_rfl
theorem St_Pr (v u : Value) : Instr.storeAt 51 v u = @Classical.epsilon _ neG (StF 51 v u) := StF_eq _ _ _
attribute [local go_sem ↓] St_Pr Ld_Pr
theorem newP (w : World) (L : List Value) (hl : L.length = 4) (h1 : L.toArray.all (·.oneCell') = true) :
    ∃ w', (@Classical.epsilon _ neG (StF 51 (.pointer (some ⟨w.heap.size, 0, none⟩)) (.agg L.toArray))).run Try.prog (w.alloc (.cells #[.int .i64 0, .int .i64 0, .int .i64 0, .int .i64 0] 51)) = .ok () w' ∧ w'.heap[w.heap.size]? = some (.cells L.toArray 51 (0, 0)) ∧ Ext w w' := by
  have h : (w.alloc (.cells #[.int .i64 0, .int .i64 0, .int .i64 0, .int .i64 0] 51)).heap[w.heap.size]? = some (.cells [Value.int .i64 0, .int .i64 0, .int .i64 0, .int .i64 0].toArray 51 (0, 0)) := heap_alloc_new _ _
  obtain ⟨h1, h2, h3⟩ := stF_mid 51 h 0 L (by rw [hl]; decide) (by rw [hl]; exact info_prim4) h1
  refine ⟨_, h1, ?_, ((Ext.refl _).alloc _).chgTrans h3 (by simp)⟩
  rw [h2, List.take_zero, List.nil_append, Nat.zero_add, List.drop_eq_nil_of_le (by rw [hl]; decide), List.append_nil]
theorem prC_four {m : Int} {l : List Int} {I : Nat} (h : I + szR m ≤ l.length) : ∃ p0 p1 p2 p3 : Int, prC m l I = [.int .i64 p0, .int .i64 p1, .int .i64 p2, .int .i64 p3] := by
  obtain ⟨x, y, z, hx⟩ := prB_three (sz_in m).2 h
  unfold prC prV
  rw [hx]
  split
  · exact ⟨_, _, _, _, rfl⟩
  · split <;> exact ⟨_, _, _, _, rfl⟩
/-- The first k primitives, cell by cell. -/
def pmF (m : Int) (l : List Int) (k : Nat) : List Value := ((List.range k).map fun j => prC m l (j * spR m)).flatten
theorem pmF_succ (m : Int) (l : List Int) (k : Nat) : pmF m l (k + 1) = pmF m l k ++ prC m l (k * spR m) := by unfold pmF; rw [List.range_succ, List.map_append, List.flatten_append]; simp
/-- The primitive that closes a loop. -/
def clC (l : List Int) : List Value := [.int .i64 2, .int .i64 (l.getD (l.length - 1) 0), .int .i64 (l.getD 0 0), .int .i64 0]
def isCl (m : Int) (l : List Int) : Bool := decide (m = 2) && decide (1 < l.length)
def pmLen (m : Int) (l : List Int) : Nat := prN m l.length + if isCl m l then 1 else 0
def pmAll (m : Int) (l : List Int) : List Value := pmF m l (prN m l.length) ++ if isCl m l then clC l else []
theorem prN_le (m : Int) (len : Nat) : prN m len ≤ len := by
  rcases Nat.lt_or_ge len (prN m len) with h | h
  · have h1 := (prN_iff m len (prN m len - 1)).1 (by omega)
    have h2 := sp_in m
    have h3 := sz_in m
    have h4 : prN m len - 1 ≤ (prN m len - 1) * spR m := Nat.le_mul_of_pos_right _ (by omega)
    omega
  · exact h

theorem ownsRow_chg {w w' : World} {base sz n : Nat} {e : TypeId} {v : Value} {xs : List Value} {M : List Nat} (h : w.ownsRow base e sz v n xs) (x : Chg M w w') (hM : ∀ m, m ∈ M → m < base) : w'.ownsRow base e sz v n xs := by
  refine ⟨h.1, ?_⟩
  rcases h.2 with hn | ⟨g, cap, cur, hv, hb, hg, rest⟩
  · exact .inl hn
  · exact .inr ⟨g, cap, cur, hv, hb, x.heap hg (fun hm => by have := hM _ hm; omega), rest⟩
theorem owned_cells {w : World} {base sz n : Nat} {e : TypeId} {v : Value} {xs : List Value} (h : w.ownsRow base e sz v n xs) : ∀ g, v.ownBlock = some g → base ≤ g ∧ g < w.heap.size ∧ ∃ o : Obj, w.heap[g]? = some o ∧ o.isCells = true := by
  intro g hg
  refine ⟨(h.lt g hg).1, (h.lt g hg).2, ?_⟩
  rcases h.2 with ⟨hn, _⟩ | ⟨g', cap, cur, hv, hb, hh, rest⟩
  · rw [hn] at hg; simp [Value.ownBlock] at hg
  · rw [hv] at hg
    simp [Value.ownBlock] at hg
    subst hg
    exact ⟨_, hh, rfl⟩
theorem one_prim {a b c d : Int} : ∀ u ∈ [Value.int .i64 a, Value.int .i64 b, Value.int .i64 c, Value.int .i64 d], u.oneCell' = true := by
  intro u hu
  simp only [List.mem_cons, List.not_mem_nil, or_false] at hu
  rcases hu with rfl | rfl | rfl | rfl <;> rfl
theorem far_heap {W w5 : World} {o o2 : Obj} {row : Option Nat} (hg : (W.alloc o).drew.grownBy w5 row) {k : Nat} (hc : W.heap[k]? = some o2) (hr : ∀ j, row = some j → j ≠ k) : w5.heap[k]? = some o2 :=
  grown_heap hg (((Ext.refl W).alloc o).drew.heap hc) hr
theorem far_cell {W w5 : World} {o : Obj} {row : Option Nat} (hg : (W.alloc o).drew.grownBy w5 row) {p : Addr} {v : Value} (hc : W.cell? p = some v) (hr : ∀ k, row = some k → k ≠ p.block) : w5.cell? p = some v := by
  have h1 := ((Ext.refl W).alloc o).drew.cell hc
  exact (hg.cell_far p (World.block_lt_of_cell? _ p h1) (fun e => hr _ e.symm rfl)).trans h1
theorem pmF_len (m : Int) (l : List Int) (k : Nat) (hk : k ≤ prN m l.length) : (pmF m l k).length = k * 4 := by
  induction k with
  | zero => rfl
  | succ k ih =>
    obtain ⟨p0, p1, p2, p3, hp⟩ := prC_four ((prN_iff m l.length k).1 (by omega))
    rw [pmF_succ, List.length_append, ih (by omega), hp]
    simp
    omega
set_option maxHeartbeats 4000000 in
set_option maxRecDepth 100000 in
theorem fprims_any (m : Int) (hm1 : 0 ≤ m) (hm2 : m ≤ 6) (lv : Value) (l : List Int) (w : World) (hl : Ints .i64 w lv l) (hlen : l.length ≤ 256) :
    Calls Try.prog 19 #[.int .i64 m, lv] w fun e w' => ∃ a cap, e = .returned (.tuple #[.slice a (pmLen m l) cap, .int .i64 0]) ∧ SlC w' (.slice a (pmLen m l) cap) 4 (pmLen m l) (pmAll m l) ∧ Ext w w' := by
  obtain ⟨i0, hi, hz0, hz1, hz2⟩ := info_parts info_prim
  have HL := Lib.hid hl
  obtain ⟨⟨_, av, cap, rfl, hc1, hc2, hzz, _⟩, _⟩ := hl
  have HBT := Lib.hid (show (decide (0 ≤ m) && decide (m ≤ 6)) = true by rw [decide_eq_true hm1, decide_eq_true hm2]; rfl)
  obtain ⟨w1, hw1, h6, hx1⟩ : ∃ w1, w.alloc (.cells #[.slice none 0 0] 44) = w1 ∧ w1.heap[w.heap.size]? = some (.cells #[.slice none 0 0] 44 (0, 0)) ∧ Ext w w1 := ⟨_, rfl, heap_alloc_new _ _, (Ext.refl _).alloc _⟩
  have HW1 := Lib.hid hw1
  have H6 := Lib.hid h6
  have HX1 := Lib.hid hx1
  clear hw1 h6 hx1
  have hl1 : (l.length : Int) ≤ 256 := by omega
  refine calls_of_marks Try.func19 rfl ?_
  simp only [Try.ntmps19, List.size_toArray, List.length_cons, List.length_nil, Nat.reduceAdd, Nat.reduceSub, Array.replicate_succ, Array.replicate_zero, List.push_toArray, List.append_toArray, List.nil_append, List.cons_append]
  go_upto_region 6 with (go_at_call 26; refine (between_any _ _ _ _).mono ?_; rw [HBT.out]; rintro _ _ ⟨rfl, rfl⟩)
  rw [HW1.out]
  generalize hb6 : w.heap.size = b6 at *
  have HB6 := Lib.hid hb6
  clear hb6 HW1
  go_wp2_with (go_at_call 34; refine (prims_any m hm1 hm2 _ _ _ _).mono ?_; rintro _ w2 ⟨n, rfl, hn, hpr, hx2⟩; unfold prF)
  have hb6w := heap_lt H6.out
  have HL2 := Lib.hid (HL.out.ext (HX1.out.trans hx2))
  have HX2 := Lib.hid (HX1.out.trans hx2)
  have H62 := Lib.hid (hx2.heap H6.out)
  have HPR := Lib.hid hpr
  have hnn := heap_lt hpr.step
  clear hpr hx2 HX1 H6
  have hlb : ∀ b, (Value.slice av l.length cap).ownBlock = some b → 0 < l.length → b < b6 := fun b hb h0 => by rw [← HB6.out]; exact HL.out.1.lt hb h0
  have HLB := Lib.hid hlb
  clear hlb
  have hb6w2 := heap_lt H62.out
  refine range_lawT rfl (enters_of Try.func49 (by kernel_rfl) rfl) (prims_tells n m hm1 hm2 _ l w2 HPR.out HL2.out (by omega)) (Below.refl _ _)
    (fun k hk => by
      rcases hk with hk | ⟨hk, h0⟩
      · omega
      · have := HLB.out k hk h0; omega) (fun k args W h => by rw [h]; rfl) (fun k args A B h _ => h)
    (fun k W => Chg [b6] w2 W ∧ ∃ a c, W.heap[b6]? = some (.cells #[.slice a k c] 44 (0, 0)) ∧ W.ownsRow w2.heap.size 51 4 (.slice a k c) k (pmF m l k)) (fun _ _ => False)
    (fun k A B h t => ⟨h.1.turn t (Nat.le_refl _), by obtain ⟨a, c, h1, h2⟩ := h.2; exact ⟨a, c, t.cells h1, ownsRow_turn h2 t⟩⟩) (fun _ _ _ h _ => h) ⟨Chg.refl _ _, none, 0, H62.out, World.ownsRow_nil _ _ _ _⟩
    (fun t k args a' W => ∃ b7, w2.heap.size ≤ b7 ∧ W.heap[b7]? = some (.cells (prC m l (k * spR m)).toArray 51 (0, 0)) ∧ a' = { tmps := (t.setIfInBounds 20 (args.getD 0 undef)).setIfInBounds 7 (.pointer (some ⟨b7, 0, none⟩)), defers := [] }) (fun t k args a' A B h x => by obtain ⟨b7, h1, h2, h3⟩ := h; exact ⟨b7, h1, x.cells h2, h3⟩) ?assign ?body ?done ?stop
  case assign =>
    rintro lp k args W K hk ⟨hch, _⟩ hg hK
    subst hg
    obtain ⟨p0, p1, p2, p3, hp⟩ := prC_four ((prN_iff m l.length k).1 hk)
    rw [hp] at hK ⊢
    have hsz := hch.size
    obtain ⟨W1, hst, h7, hx7⟩ := newP W [.int .i64 p0, .int .i64 p1, .int .i64 p2, .int .i64 p3] rfl (by simp [Value.oneCell'])
    clear hp
    gi_wp2
    exact hK _ _ hx7 ⟨W.heap.size, hsz, h7, rfl⟩
  case body =>
    rintro lp k args a' W hk hsz ⟨hch, a, c, h6, hown⟩ hg ⟨b7, hb7, h7, ha⟩
    subst hg
    subst ha
    obtain ⟨p0, p1, p2, p3, hp⟩ := prC_four ((prN_iff m l.length k).1 hk)
    have HSUC := Lib.hid (pmF_succ m l k)
    rw [hp] at h7 HSUC ⊢
    have hkl := Nat.lt_of_lt_of_le hk (prN_le m l.length)
    have hld := ldF_whole (T := 51) (cs := [.int .i64 p0, .int .i64 p1, .int .i64 p2, .int .i64 p3]) _ h7 Try.underlying51 rfl info_prim4
    have e6 : W.cell? ⟨b6, 0, none⟩ = some (.slice a k c) := cell_of_heap h6 rfl
    have n7 := heap_lt h7
    have n6 := heap_lt h6
    have HCH := Lib.hid hch
    have H6 := Lib.hid h6
    have HOWN := Lib.hid hown
    clear hp hch h6 h7 hown hk
    gi_wp2_with (gi_at_builtin; refine wpListIn_append_own _ rfl _ _ 44 rfl w2.heap.size 51 i0 (.agg #[.int .i64 0, .int .i64 0, .int .i64 0, .int .i64 0]) 4 32 Try.underlying44 hi hz0 hz1 hz2 rfl (by decide) _ _ _ rfl (HOWN.out.alloc _) ⟨W.heap.size, 0, none⟩ 1 1 [.int .i64 p0, .int .i64 p1, .int .i64 p2, .int .i64 p3] rfl ?c0 ?c1 ?c2 ?c3 ?c4 ?c5 ?_)
    case c0 => rfl
    case c1 =>
      intro j u hu
      rw [Addr.add_lit]
      exact cell_of_heap (heap_alloc_new _ _) (by simpa using hu)
    case c2 =>
      intro u hu
      simp only [List.mem_cons, List.not_mem_nil, or_false] at hu
      rcases hu with rfl | rfl | rfl | rfl <;> rfl
    case c3 => unfold maxLen; omega
    case c4 => omega
    case c5 => simp; omega
    intro v' w5 hown' hgrow _
    obtain ⟨a2, c2, rfl⟩ := owns_slice hown'
    have hrow := (HOWN.out.alloc (.cells #[.int .i64 p0, .int .i64 p1, .int .i64 p2, .int .i64 p3] 51)).lt
    have hoc := owned_cells HOWN.out
    have h65 := grown_heap hgrow (((Ext.refl _).alloc _).heap H6.out) (fun j hj => by have := (hrow j hj).1; omega)
    have hch5 : Chg (b6 :: (Value.slice a k c).ownBlock.toList) W w5 := ((Chg.refl _ W).alloc _).grownM hgrow (fun k hk => by rw [hk]; simp)
    have hch0 : Chg [b6] w2 w5 := (HCH.out.alloc _).grown hgrow (fun j hj => (hrow j hj).1)
    have e65 : w5.cell? ⟨b6, 0, none⟩ = some (.slice a k c) := cell_of_heap h65 rfl
    have f65 : w5.frozen? ⟨b6, 0, none⟩ = false := free_of_heap h65
    have n65 := heap_lt h65
    have HFIN : Hid (KeepsFrom w2.heap.size W (w5.setCell ⟨b6, 0, none⟩ (.slice a2 (k + 1) c2)) ∧ Kept (prS n (.slice av l.length cap) l.length) W (w5.setCell ⟨b6, 0, none⟩ (.slice a2 (k + 1) c2)) ∧ Chg [b6] w2 (w5.setCell ⟨b6, 0, none⟩ (.slice a2 (k + 1) c2)) ∧
        ∃ a c, (w5.setCell ⟨b6, 0, none⟩ (.slice a2 (k + 1) c2)).heap[b6]? = some (.cells #[.slice a (k + 1) c] 44 (0, 0)) ∧ (w5.setCell ⟨b6, 0, none⟩ (.slice a2 (k + 1) c2)).ownsRow w2.heap.size 51 4 (.slice a (k + 1) c) (k + 1) (pmF m l (k + 1))) := by
      have hc6 := hch5.setCell (p := ⟨b6, 0, none⟩) (by simp) (.slice a2 (k + 1) c2)
      refine ⟨hc6.keeps (fun q hq => ?_), hc6.kept (fun q hq hs => ?_), hch0.setCell (by simp) _, a2, c2, heap_set (k := 0) (u := .slice a2 (k + 1) c2) h65, ?_⟩
      · rcases List.mem_cons.1 hq with rfl | hq
        · exact .inl hb6w2
        · exact .inr (hoc q (by simpa using hq)).2.2
      · rcases List.mem_cons.1 hq with rfl | hq
        · rcases hs with hs | ⟨hs, h0⟩
          · omega
          · exact absurd (HLB.out _ hs h0) (Nat.lt_irrefl _)
        · have h1 := (hoc q (by simpa using hq)).1
          rcases hs with hs | ⟨hs, h0⟩
          · omega
          · have := HLB.out _ hs h0; omega
      · rw [HSUC.out]
        exact ownsRow_chg hown' ((Chg.refl [b6] _).setCell (by simp) _) (by simp; exact hb6w2)
    clear hown' hgrow hrow hoc hch5 hch0 h65
    gi_wp2
    exact HFIN.out
  case done =>
    rintro D W hD ⟨hch, a, c, h6, hown⟩ hDW
    have HMK := Lib.hid ((Marks.nil b6 w2).more hch (by simp; exact ⟨_, H62.out, rfl⟩) (by omega) hD hDW)
    have hsc := SlC.owned hown
    have hpl := pmF_len m l (prN m l.length) (Nat.le_refl _)
    have hpn := prN_le m l.length
    have HX3 := Lib.hid (HX2.out.chgTrans hch (by rw [HB6.out]; simp))
    have HOWN := Lib.hid hown
    have HSC := Lib.hid hsc
    have HH6 := Lib.hid h6
    have HL3 := Lib.hid (HL2.out.chg hch (fun b hb h0 hm => by have := HLB.out b hb h0; simp at hm; omega))
    have e6 : W.cell? ⟨b6, 0, none⟩ = some (.slice a (prN m l.length) c) := cell_of_heap h6 rfl
    have n6 := heap_lt h6
    have hsz3 := hch.size
    clear hch h6 hown hsc hDW
    by_cases hcl : isCl m l = true
    · obtain ⟨h1, h2⟩ : m = 2 ∧ 1 < l.length := by simpa [isCl] using hcl
      subst h1
      obtain ⟨b, off, hav, hbl, hcell⟩ := HL3.out.pos (by omega)
      cases hav
      have q1 := hcell (l.length - 1) (by omega)
      have q2 := hcell 0 (by omega)
      rw [Nat.add_zero] at q2
      obtain ⟨z0, hz0'⟩ : ∃ z, l.getD 0 0 = z := ⟨_, rfl⟩
      obtain ⟨z1, hz1'⟩ : ∃ z, l.getD (l.length - 1) 0 = z := ⟨_, rfl⟩
      have HP1 := Lib.hid (show pmLen 2 l = prN 2 l.length + 1 by unfold pmLen; rw [hcl]; rfl)
      have HP2 := Lib.hid (show pmAll 2 l = pmF 2 l (prN 2 l.length) ++ [.int .i64 2, .int .i64 z1, .int .i64 z0, .int .i64 0] by unfold pmAll clC; rw [hcl, hz0', hz1']; rfl)
      rw [hz0'] at q2
      rw [hz1'] at q1
      have s1 : IntKind.i64.wrap ((l.length : Int) - 1) = ((l.length - 1 : Nat) : Int) := by rw [IntWalk.i64_in _ (by omega)]; omega
      have s2 : ((l.length - 1 : Nat) : Int) < (l.length : Int) := by omega
      have s3 : (0 : Int) < (l.length : Int) := by omega
      have s4 : (1 : Int) < (l.length : Int) := by omega
      have hbb6 : b < b6 := HLB.out b rfl (by omega)
      generalize prN 2 l.length = N at *
      generalize l.length - 1 = M at *
      clear hcell hcl hz0' hz1'
      have HR6 := Lib.hid (fun k (hk : (Value.slice a N c).ownBlock = some k) => (show k ≠ b6 by have := (HOWN.out.lt k hk).1; omega))
      have HRB := Lib.hid (fun k (hk : (Value.slice a N c).ownBlock = some k) => (show k ≠ b by have := (HOWN.out.lt k hk).1; omega))
      have hl0 : 0 < l.length := by omega
      have hw2W : w2.heap.size ≤ W.heap.size + 1 := by omega
      have hf6 : W.frozen? ⟨b6, 0, none⟩ = false := free_of_heap HH6.out
      have hm1 : N + 1 ≤ maxLen := by unfold maxLen; omega
      have hm3 : (N + 1) * 32 ≤ 140737488355328 := by omega
      go_upto_region 11 with fail
      refine wp_region_noPanic ?_
      go_region_law
        ((refine step_append_lies _ (by rfl) _ _ _ (by rfl) w2.heap.size 51 i0 (.agg #[.int .i64 0, .int .i64 0, .int .i64 0, .int .i64 0]) 4 32 Try.underlying44 hi hz0 hz1 hz2 (by rfl) (by decide) _ N _ (by rfl) (ownsRow_turn (HOWN.out.alloc _) ((Ext.refl _).drew.turn 0)) ⟨W.heap.size, 0, none⟩ 1 1 [.int .i64 2, .int .i64 z1, .int .i64 z0, .int .i64 0] (by rfl) (by rfl) (World.news_of_block (heap_alloc_new _ _)) one_prim (by decide) hm1 hm3 (by simpa using hw2W) _ rfl ?_; intro g cap2 w5 hown5 hgrow5 hat5 hlt5; have y1 := far_cell hgrow5 e6 HR6.out; have y2 := far_cell hgrow5 q1 HRB.out; have y3 := far_cell hgrow5 q2 HRB.out; have y4 := far_heap hgrow5 HH6.out HR6.out; have y5 : w5.frozen? ⟨b6, 0, none⟩ = false := free_of_heap y4; have y6 := heap_lt y4; have Y4 := Lib.hid y4; have HOWN5 := Lib.hid hown5; have HG5 := Lib.hid hgrow5; clear hown5 hgrow5 y4))
      all_goals refine NoPanic.normal ?_
      all_goals
        have h66 := heap_set (k := 0) (u := .slice (some ⟨g, 0, none⟩) (N + 1) cap2) Y4.out
        have HM6 := Lib.hid (HMK.out.chg (((((Ext.refl W).alloc _).drew.chg (b6 :: (Value.slice a N c).ownBlock.toList)).grownM HG5.out (fun k hk => by rw [hk]; simp)).setCell (p := ⟨b6, 0, none⟩) (by simp) (.slice (some ⟨g, 0, none⟩) (N + 1) cap2)) (fun q hq => by
          rcases List.mem_cons.1 hq with rfl | hq
          · exact ⟨_, HH6.out, rfl⟩
          · exact (owned_cells HOWN.out q (by simpa using hq)).2.2))
        have HS6 := Lib.hid (SlC.owned (ownsRow_chg HOWN5.out ((Chg.refl [b6] _).setCell (p := ⟨b6, 0, none⟩) (by simp) (.slice (some ⟨g, 0, none⟩) (N + 1) cap2)) (by simp; exact hb6w2)))
        have HX6 := Lib.hid ((((HX3.out.alloc _).drew).grown HG5.out (fun k hk => by have := (HOWN.out.lt k hk).1; have := HX2.out.size; omega)).setCell (p := ⟨b6, 0, none⟩) (by rw [HB6.out]; exact Nat.le_refl _) (.slice (some ⟨g, 0, none⟩) (N + 1) cap2))
        have e66 : (w5.setCell ⟨b6, 0, none⟩ (.slice (some ⟨g, 0, none⟩) (N + 1) cap2)).cell? ⟨b6, 0, none⟩ = some (.slice (some ⟨g, 0, none⟩) (N + 1) cap2) := cell_of_heap h66 rfl
        have n66 := heap_lt h66
        clear h66 y1 y2 y3 y5 HOWN5 HG5 hat5 q1 q2 e6
        go_wp2_with fail
        refine leaves_marks _ _ HM6.out fun W3 ht => ?_
        exact ⟨.tuple #[.slice (some ⟨g, 0, none⟩) (N + 1) cap2, .int .i64 0], by simp [results, go_sem, Try.f19], some ⟨g, 0, none⟩, cap2, by rw [HP1.out], by rw [HP1.out, HP2.out]; exact ht.slc HS6.out, HX6.out.turned ht (by rw [HB6.out]; exact Nat.le_refl _)⟩
    · have hcl' : isCl m l = false := by simpa using hcl
      have HP1 := Lib.hid (show pmLen m l = prN m l.length by unfold pmLen; rw [hcl']; rfl)
      have HP2 := Lib.hid (show pmAll m l = pmF m l (prN m l.length) by unfold pmAll; rw [hcl']; simp)
      by_cases h1 : m = 2
      · subst h1
        have h2 : ¬ 1 < l.length := by simpa [isCl] using hcl'
        clear hcl hcl'
        go_wp2_with fail
        refine leaves_marks _ _ HMK.out fun W3 ht => ?_
        exact ⟨.tuple #[.slice a (prN 2 l.length) c, .int .i64 0], by simp [results, go_sem, Try.f19], a, c, by rw [HP1.out], by rw [HP1.out, HP2.out]; exact ht.slc HSC.out, HX3.out.turned ht (by rw [HB6.out]; exact Nat.le_refl _)⟩
      · have h1' : (m == 2) = false := by simpa using h1
        clear hcl hcl' h1
        go_wp2_with fail
        refine leaves_marks _ _ HMK.out fun W3 ht => ?_
        exact ⟨.tuple #[.slice a (prN m l.length) c, .int .i64 0], by simp [results, go_sem, Try.f19], a, c, by rw [HP1.out], by rw [HP1.out, HP2.out]; exact ht.slc HSC.out, HX3.out.turned ht (by rw [HB6.out]; exact Nat.le_refl _)⟩
  case stop => rintro D c W _ h; exact h.elim
end Go.Proofs.Ytgbcngmciabpkaa
