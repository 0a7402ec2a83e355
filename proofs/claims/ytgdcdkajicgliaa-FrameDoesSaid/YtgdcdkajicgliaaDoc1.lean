/- The document's planes: what they are; In, Right, May, Cell. Conditions: each theorem's own premises. -/
import Derived.Test.YtgdcdkajicgliaaFraB
import Derived.Test.YtgdcdkajicgliaaPck
namespace Go.Proofs.Ytgdcdkajicgliaa
open Go.RowKit
set_option linter.unusedVariables false
set_option linter.unusedSimpArgs false
set_option maxRecDepth 100000

/-- What stands in a cell of the document's planes. -/
structure Bt where
  c : Value
  d : Int
  s : Int
def Bt.C (b : Bt) : List Value := [b.c, .int .u32 b.d, .int .i64 b.s]
def btC (L : List Bt) : List Value := L.flatMap Bt.C
/-- The document's planes, as a value. -/
def Pl.D (P : Pl) (v : Value) : List Value := [.int .i64 P.W, .int .i64 P.H, .int .i64 P.F, .bool P.dep, .bool P.sten, v]
/-- The document's planes, in memory from some block on. -/
structure DAt (G : Nat → Prop) (w : World) (v : Value) (P : Pl) (L : List Bt) : Prop where
  ok : P.Ok
  l : L.length = P.W * P.H
  r : SlC w v 3 L.length (btC L)
  rb : ∀ k, v.ownBlock = some k → G k
  c : ∀ (i : Nat) (b : Bt), L[i]? = some b → Ints .u8 w b.c (colAt P i)
  cb : ∀ (i : Nat) (b : Bt), L[i]? = some b → ∀ k, b.c.ownBlock = some k → G k
  d : ∀ (i : Nat) (b : Bt), L[i]? = some b → b.d = (if P.dep then P.dz.getD i 0 else 0) ∧ b.s = (if P.sten then P.ms.getD i 0 else 0)
theorem DAt.ext {G : Nat → Prop} {w w' : World} {v : Value} {P : Pl} {L : List Bt} (h : DAt G w v P L) (x : Ext w w') : DAt G w' v P L := ⟨h.ok, h.l, h.r.ext x, h.rb, fun i b hb => (h.c i b hb).ext x, h.cb, h.d⟩
theorem DAt.chg {M : List Nat} {G : Nat → Prop} {w w' : World} {v : Value} {P : Pl} {L : List Bt} (h : DAt G w v P L) (x : Chg M w w') (hM : ∀ m ∈ M, ¬ G m) : DAt G w' v P L :=
  ⟨h.ok, h.l, h.r.chg x (fun b hb _ hm => hM b hm (h.rb b hb)), h.rb, fun i b hb => (h.c i b hb).chg x (fun k hk _ hm => hM k hm (h.cb i b hb k hk)), h.cb, h.d⟩
theorem Pl.Ok.pos {P : Pl} (h : P.Ok) : 0 < P.W * P.H := Nat.mul_pos (by have := h.w1; omega) (by have := h.h1; omega)
theorem DAt.mono {G G' : Nat → Prop} {w : World} {v : Value} {P : Pl} {L : List Bt} (h : DAt G w v P L) (hb : ∀ k, k < w.heap.size → G k → G' k) : DAt G' w v P L :=
  ⟨h.ok, h.l, h.r, fun k hk => hb k (h.r.lt hk (by rw [h.l]; exact h.ok.pos)) (h.rb k hk), h.c, fun i b hb2 k hk => hb k ((h.c i b hb2).1.lt hk (by
    have hi := (List.getElem?_eq_some_iff.1 hb2).1
    rw [h.l] at hi
    have h1 := lay_fit h.ok hi
    have h2 := (szN_bd P.F).1
    unfold colAt
    rw [List.length_take, List.length_drop]
    omega)) (h.cb i b hb2 k hk), h.d⟩
theorem Ld_Bt (v : Value) : Instr.loadAt 140 v = @Classical.epsilon _ neF (LdF 140 v) := LdF_eq _ _
theorem St_Bt (v u : Value) : Instr.storeAt 140 v u = @Classical.epsilon _ neG (StF 140 v u) := StF_eq _ _ _
theorem Ld_Dp (v : Value) : Instr.loadAt 76 v = @Classical.epsilon _ neF (LdF 76 v) := LdF_eq _ _
theorem St_Dp (v u : Value) : Instr.storeAt 76 v u = @Classical.epsilon _ neG (StF 76 v u) := StF_eq _ _ _
/-- The document's planes in a block. -/
def DpAt (w : World) (b : Nat) (P : Pl) (v : Value) : Prop := w.heap[b]? = some (.cells (P.D v).toArray 76 (0, 0))
theorem DpAt.load {w : World} {b : Nat} {P : Pl} {v : Value} (h : DpAt w b P v) : (@Classical.epsilon _ neF (LdF 76 (.pointer (some ⟨b, 0, none⟩)))).run Try.prog w = .ok (.agg (P.D v).toArray) w :=
  ldF_whole (T := 76) _ h Try.underlying76 rfl (by kernel_rfl)
theorem btC_at (L : List Bt) (k : Nat) (b : Bt) (h : L[k]? = some b) (j : Nat) (hj : j < 3) : (btC L)[k * 3 + j]? = b.C[j]? := by
  unfold btC
  rw [List.flatMap_def, flat_at9 3 (L.map Bt.C) k j (by intro cs hcs; obtain ⟨p, _, rfl⟩ := List.mem_map.1 hcs; rfl) hj]
  simp [h]
/-- A cell's bits are loaded. -/
theorem bt_get {w : World} {a : Option Addr} {n cap : Nat} {L : List Bt} (h : SlC w (.slice a n cap) 3 n (btC L)) (hn : n = L.length) {k : Nat} {b : Bt} (hk : L[k]? = some b) :
    ∃ g off, a = some ⟨g, off, none⟩ ∧ g < w.heap.size ∧ (@Classical.epsilon _ neF (LdF 140 (.pointer (some ⟨g, off + k * 3, none⟩)))).run Try.prog w = .ok (.agg b.C.toArray) w ∧ w.cell? ⟨g, off + k * 3, none⟩ = some b.c := by
  have hlt := (List.getElem?_eq_some_iff.1 hk).1
  obtain ⟨_, a', cap', he, _, _, _, hp⟩ := h
  simp only [Value.slice.injEq] at he
  obtain ⟨rfl, _, rfl⟩ := he
  obtain ⟨g, off, rfl, hg, hcell⟩ := hp (by omega)
  refine ⟨g, off, rfl, hg, ldF_ok (cs := b.C) _ (fun j v hv => ?_) Try.underlying140 rfl (by kernel_rfl), ?_⟩
  · have hj : j < 3 := (List.getElem?_eq_some_iff.1 hv).1
    have := hcell (k * 3 + j) v ((btC_at L k b hk j hj).trans hv)
    rwa [← Nat.add_assoc] at this
  · have := hcell (k * 3 + 0) b.c ((btC_at L k b hk 0 (by decide)).trans rfl)
    exact this
section
attribute [local go_sem ↓] Ld_Bt St_Bt Ld_Ce St_Ce Ld_V4
set_option maxHeartbeats 2000000 in
theorem din_any (P : Pl) (v : Value) (x y : Int) (w : World) : Calls Try.prog 31 #[.agg (P.D v).toArray, .int .i64 x, .int .i64 y] w fun e w' => e = .returned (.bool (inP P.W P.H x y)) ∧ Ext w w' := by
  obtain ⟨w2, hw2, h2, hx2⟩ : ∃ w2, w.alloc (.cells (P.D v).toArray 76) = w2 ∧ w2.heap[w.heap.size]? = some (.cells (P.D v).toArray 76 (0, 0)) ∧ Ext w w2 := ⟨_, rfl, heap_alloc_new _ _, (Ext.refl _).alloc _⟩
  have HX := Lib.hid hx2
  have HW := Lib.hid hw2
  have c0 : w2.cell? ⟨w.heap.size, 0, none⟩ = some (.int .i64 P.W) := cell_of_heap h2 rfl
  have c1 : w2.cell? ⟨w.heap.size, 1, none⟩ = some (.int .i64 P.H) := cell_of_heap h2 rfl
  have n0 := heap_lt h2
  clear hx2 hw2 h2
  unfold inP
  by_cases h1 : 0 ≤ x
  · by_cases h3 : x < P.W
    · by_cases h2 : 0 ≤ y
      · by_cases h4 : y < P.H
        all_goals
          go_enter Try.func31, Try.ntmps31
          go_upto_region 1 with fail
          rw [HW.out]
          go_wp2_with fail
          go_ret
          exact ⟨by first | rfl | (simp; done) | (simp; omega), HX.out⟩
      · go_enter Try.func31, Try.ntmps31
        go_upto_region 1 with fail
        rw [HW.out]
        go_wp2_with fail
        go_ret
        exact ⟨by first | rfl | (simp; done) | (simp; omega), HX.out⟩
    · go_enter Try.func31, Try.ntmps31
      go_upto_region 1 with fail
      rw [HW.out]
      go_wp2_with fail
      go_ret
      exact ⟨by first | rfl | (simp; done) | (simp; omega), HX.out⟩
  · go_enter Try.func31, Try.ntmps31
    go_upto_region 1 with fail
    rw [HW.out]
    go_wp2_with fail
    go_ret
    exact ⟨by first | rfl | (simp; done) | (simp; omega), HX.out⟩
theorem dright_any (x y f : Int) (w : World) : Calls Try.prog 27 #[.int .i64 x, .int .i64 y, .int .i64 f] w fun e w' => e = .returned (.bool (mayV x y f)) ∧ w = w' := by
  unfold mayV
  by_cases h1 : 1 ≤ x <;> by_cases h2 : x ≤ 64 <;> by_cases h3 : 1 ≤ y <;> by_cases h4 : y ≤ 64 <;> by_cases h5 : 1 ≤ f <;> by_cases h6 : f ≤ 4
  all_goals
    go_enter Try.func27, Try.ntmps27
    go_wp2
    go_ret
    exact ⟨by first | rfl | simp [h1, h2, h3, h4, h5, h6], rfl⟩
end
end Go.Proofs.Ytgdcdkajicgliaa
