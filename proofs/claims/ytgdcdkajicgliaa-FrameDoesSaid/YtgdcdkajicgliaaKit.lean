/- Plain lemmas on worlds and slices, over no program: slices that read as lists of cells, worlds that grow, worlds that turn in some blocks alone. No conditions. -/
import Derived.WalkKit
import Derived.WalkSmall
import Derived.WalkSpells
namespace Go.Proofs.Ytgdcdkajicgliaa
open Go.RowKit

/-- All that was there is as it was. -/
def Ext (w w' : World) : Prop := Below w.heap.size w w'

theorem Ext.refl (w : World) : Ext w w := Below.refl _ _
theorem Ext.size {w w' : World} (h : Ext w w') : w.heap.size ≤ w'.heap.size := Below.size h
theorem Ext.trans {a b c : World} (h : Ext a b) (k : Ext b c) : Ext a c := Below.trans h (Below.mono k h.size)
theorem Ext.drew {a w : World} (h : Ext a w) : Ext a w.drew := Below.drew h
theorem Ext.drewN {a w : World} (h : Ext a w) (n : Nat) : Ext a (w.drewN n) := below_drewN h n
theorem Ext.alloc {a w : World} (h : Ext a w) (o : Obj) : Ext a (w.alloc o) := Below.alloc h h.size o
theorem Ext.setCell {a w : World} (h : Ext a w) {p : Addr} (hp : a.heap.size ≤ p.block) (u : Value) : Ext a (w.setCell p u) := Below.setCell h hp u
theorem Ext.grown {a w w' : World} {row : Option Nat} (h : Ext a w) (hg : w.grownBy w' row) (hr : ∀ k, row = some k → a.heap.size ≤ k) : Ext a w' := Below.grown h hg h.size hr
theorem Ext.heap {w w' : World} (h : Ext w w') {k : Nat} {o : Obj} (hk : w.heap[k]? = some o) : w'.heap[k]? = some o :=
  (h.block k (Array.getElem?_eq_some_iff.1 hk).1).trans hk
theorem Ext.cell {w w' : World} (h : Ext w w') {p : Addr} {v : Value} (hc : w.cell? p = some v) : w'.cell? p = some v :=
  (Below.cell h (World.block_lt_of_cell? w p hc)).trans hc
theorem Ext.below {B : Nat} {w0 w w' : World} (h : Below B w0 w) (hB : B ≤ w.heap.size) (k : Ext w w') : Below B w0 w' := h.trans (Below.mono k hB)

/-- Blocks that are not in M are as they were. -/
structure Chg (M : List Nat) (w w' : World) : Prop where
  os : w'.os = w.os
  tape : w'.tape = w.tape
  output : w'.output = w.output
  size : w.heap.size ≤ w'.heap.size
  block : ∀ k, k < w.heap.size → k ∉ M → w'.heap[k]? = w.heap[k]?

theorem Chg.refl (M : List Nat) (w : World) : Chg M w w := ⟨rfl, rfl, rfl, Nat.le_refl _, fun _ _ _ => rfl⟩
theorem Chg.trans {M : List Nat} {a b c : World} (h : Chg M a b) (k : Chg M b c) : Chg M a c :=
  ⟨k.os.trans h.os, k.tape.trans h.tape, k.output.trans h.output, Nat.le_trans h.size k.size, fun i hi hm => (k.block i (Nat.lt_of_lt_of_le hi h.size) hm).trans (h.block i hi hm)⟩
theorem Ext.chg {w w' : World} (h : Ext w w') (M : List Nat) : Chg M w w' := ⟨h.os, h.tape, h.output, h.size, fun k hk _ => h.block k hk⟩
theorem Chg.mono {M N : List Nat} {w w' : World} (h : Chg M w w') (hs : ∀ k, k ∈ M → k ∈ N) : Chg N w w' := ⟨h.os, h.tape, h.output, h.size, fun k hk hn => h.block k hk fun hm => hn (hs k hm)⟩
theorem Chg.setCell {M : List Nat} {a w : World} (h : Chg M a w) {p : Addr} (hp : p.block ∈ M) (u : Value) : Chg M a (w.setCell p u) :=
  h.trans ⟨rfl, rfl, rfl, by simp [World.setCell], fun k _ hk => Below.heap_setCell _ _ _ _ (fun e => hk (e ▸ hp))⟩
theorem Chg.ext {M : List Nat} {w w' : World} (h : Chg M w w') (hM : ∀ k, k ∈ M → w.heap.size ≤ k) : Ext w w' :=
  ⟨h.os, h.tape, h.output, h.size, fun k hk => h.block k hk fun hm => by have := hM k hm; omega⟩
theorem Chg.grown {M : List Nat} {a w w' : World} {row : Option Nat} (h : Chg M a w) (hg : w.grownBy w' row) (hr : ∀ k, row = some k → a.heap.size ≤ k) : Chg M a w' :=
  ⟨hg.os.trans h.os, hg.tape.trans h.tape, hg.output.trans h.output, Nat.le_trans h.size hg.size, fun k hk hm => (hg.block k (Nat.lt_of_lt_of_le hk h.size) (fun e => by have := hr k e.symm; omega)).trans (h.block k hk hm)⟩
theorem Chg.alloc {M : List Nat} {a w : World} (h : Chg M a w) (o : Obj) : Chg M a (w.alloc o) := h.trans (((Ext.refl _).alloc o).chg M)
theorem Chg.drewN {M : List Nat} {a w : World} (h : Chg M a w) (n : Nat) : Chg M a (w.drewN n) := h.trans (((Ext.refl _).drewN n).chg M)
theorem Chg.ext2 {M : List Nat} {a b c : World} (h : Chg M a b) (x : Ext b c) : Chg M a c := h.trans (x.chg M)
theorem grown_heap {w w' : World} {row : Option Nat} (hg : w.grownBy w' row) {k : Nat} {o : Obj} (h : w.heap[k]? = some o) (hr : ∀ j, row = some j → j ≠ k) : w'.heap[k]? = some o :=
  (hg.block k (Array.getElem?_eq_some_iff.1 h).1 (fun e => hr k e.symm rfl)).trans h
/-- What was new before the turn is new behind it. -/
theorem Ext.chgTrans {M : List Nat} {a b c : World} (h : Ext a b) (k : Chg M b c) (hM : ∀ i, i ∈ M → a.heap.size ≤ i) : Ext a c :=
  ((h.chg M).trans k).ext hM
theorem Chg.cell {M : List Nat} {w w' : World} (h : Chg M w w') {p : Addr} {v : Value} (hp : p.block ∉ M) (hc : w.cell? p = some v) : w'.cell? p = some v :=
  (World.cell?_of_block (h.block p.block (World.block_lt_of_cell? w p hc) hp)).trans hc
theorem Chg.heap {M : List Nat} {w w' : World} (h : Chg M w w') {k : Nat} {o : Obj} (hk : w.heap[k]? = some o) (hm : k ∉ M) : w'.heap[k]? = some o :=
  (h.block k (Array.getElem?_eq_some_iff.1 hk).1 hm).trans hk

/-- A slice of n elements, of sz cells each, that reads as the cells cs. -/
def SlC (w : World) (v : Value) (sz n : Nat) (cs : List Value) : Prop :=
  cs.length = n * sz ∧ ∃ a cap, v = .slice a n cap ∧ n ≤ cap ∧ cap ≤ maxLen ∧ (a = none → cap = 0) ∧
    (0 < n → ∃ b off, a = some ⟨b, off, none⟩ ∧ b < w.heap.size ∧ ∀ j u, cs[j]? = some u → w.cell? ⟨b, off + j, none⟩ = some u)

theorem SlC.nil (w : World) (sz : Nat) : SlC w (.slice none 0 0) sz 0 [] := ⟨by simp, none, 0, rfl, Nat.le_refl _, Nat.zero_le _, fun _ => rfl, fun h => absurd h (Nat.lt_irrefl _)⟩

theorem SlC.chg {M : List Nat} {w w' : World} {v : Value} {sz n : Nat} {cs : List Value} (h : SlC w v sz n cs) (k : Chg M w w') (hM : ∀ b, v.ownBlock = some b → 0 < n → b ∉ M) : SlC w' v sz n cs := by
  obtain ⟨hl, a, cap, rfl, hn, hc, hz, hp⟩ := h
  refine ⟨hl, a, cap, rfl, hn, hc, hz, fun h0 => ?_⟩
  obtain ⟨b, off, rfl, hb, hcell⟩ := hp h0
  exact ⟨b, off, rfl, Nat.lt_of_lt_of_le hb k.size, fun j u hu => k.cell (hM b rfl h0) (hcell j u hu)⟩

theorem SlC.ext {w w' : World} {v : Value} {sz n : Nat} {cs : List Value} (h : SlC w v sz n cs) (k : Ext w w') : SlC w' v sz n cs :=
  h.chg (k.chg []) (fun _ _ _ => by simp)

theorem SlC.lt {w : World} {v : Value} {sz n : Nat} {cs : List Value} (h : SlC w v sz n cs) {b : Nat} (hb : v.ownBlock = some b) (h0 : 0 < n) : b < w.heap.size := by
  obtain ⟨_, a, cap, rfl, _, _, _, hp⟩ := h
  obtain ⟨b', off, rfl, hlt, _⟩ := hp h0
  simp [Value.ownBlock] at hb
  omega

/-- From an owned row. -/
theorem SlC.owned {w : World} {base : Nat} {e : TypeId} {size : Nat} {v : Value} {n : Nat} {xs : List Value} (h : w.ownsRow base e size v n xs) : SlC w v size n xs := by
  refine ⟨h.1, ?_⟩
  have h' := h
  rcases h.2 with ⟨rfl, rfl⟩ | ⟨g, cap, cur, rfl, hb, hh, hn, hm, hs, ht⟩
  · exact ⟨none, 0, rfl, Nat.le_refl _, Nat.zero_le _, fun _ => rfl, fun h => absurd h (Nat.lt_irrefl _)⟩
  · refine ⟨some ⟨g, 0, none⟩, cap, rfl, hn, hm, (by intro h; cases h), fun _ => ⟨g, 0, rfl, (Array.getElem?_eq_some_iff.1 hh).1, fun j u hu => ?_⟩⟩
    have := h'.cells (g := g) rfl j u hu
    rw [Addr.add_lit] at this
    exact this

/-- A new block of literal cells, as a slice. -/
theorem SlC.new {w : World} (cs : List Value) (e : TypeId) (sz n : Nat) (hl : cs.length = n * sz) (hm : n ≤ maxLen) : SlC (w.alloc (.cells cs.toArray e)) (.slice (some ⟨w.heap.size, 0, none⟩) n n) sz n cs := by
  refine ⟨hl, _, _, rfl, Nat.le_refl _, hm, (by intro h; cases h), fun _ => ⟨_, _, rfl, by simp, fun j u hu => ?_⟩⟩
  rw [cell_of_row _ _ _ cs.toArray e (0, 0) (heap_alloc_new w _)]
  simpa using hu

/-- x[l:h]. -/
theorem SlC.cut {w : World} {a : Option Addr} {sz n cap : Nat} {cs : List Value} (h : SlC w (.slice a n cap) sz n cs) (l k : Nat) (hl : l ≤ k) (hk : k ≤ n) :
    SlC w (.slice (if cap = l then a else a.map (·.add (l * sz))) (k - l) (cap - l)) sz (k - l) ((cs.drop (l * sz)).take ((k - l) * sz)) := by
  obtain ⟨hlen, a', cap', he, hn, hc, hz, hp⟩ := h
  simp only [Value.slice.injEq] at he
  obtain ⟨rfl, _, rfl⟩ := he
  have hmul : k * sz ≤ n * sz := Nat.mul_le_mul_right sz hk
  have hsub : (k - l) * sz = k * sz - l * sz := Nat.sub_mul k l sz
  have hlk : l * sz ≤ k * sz := Nat.mul_le_mul_right sz hl
  refine ⟨by rw [List.length_take, List.length_drop, hlen]; omega, _, _, rfl, by omega, by omega, ?_, ?_⟩
  · split
    · intro _; omega
    · intro ha
      cases a with
      | none => have := hz rfl; omega
      | some x => simp at ha
  · intro h0
    obtain ⟨b, off, rfl, hb, hcell⟩ := hp (by omega)
    rw [if_neg (by omega)]
    refine ⟨b, off + l * sz, by simp [Addr.add_lit], hb, fun j u hu => ?_⟩
    rw [List.getElem?_take] at hu
    split at hu
    · rw [List.getElem?_drop] at hu
      have := hcell _ u hu
      rwa [← Nat.add_assoc] at this
    · cases hu

/-- Numbers of a kind. -/
def Ints (k : IntKind) (w : World) (v : Value) (zs : List Int) : Prop := SlC w v 1 zs.length (zs.map (Value.int k)) ∧ ∀ z ∈ zs, (Lit.int k z).wf = true

theorem Ints.ext {k : IntKind} {w w' : World} {v : Value} {zs : List Int} (h : Ints k w v zs) (x : Ext w w') : Ints k w' v zs := ⟨h.1.ext x, h.2⟩
theorem Ints.chg {k : IntKind} {M : List Nat} {w w' : World} {v : Value} {zs : List Int} (h : Ints k w v zs) (x : Chg M w w') (hM : ∀ b, v.ownBlock = some b → 0 < zs.length → b ∉ M) : Ints k w' v zs := ⟨h.1.chg x hM, h.2⟩
theorem Ints.cut {k : IntKind} {w : World} {a : Option Addr} {cap : Nat} {zs : List Int} (h : Ints k w (.slice a zs.length cap) zs) (l r : Nat) (hl : l ≤ r) (hr : r ≤ zs.length) :
    Ints k w (.slice (if cap = l then a else a.map (·.add l)) (r - l) (cap - l)) ((zs.drop l).take (r - l)) := by
  have := h.1.cut l r hl hr
  simp only [Nat.mul_one, ← List.map_drop, ← List.map_take] at this
  refine ⟨?_, fun z hz => h.2 z (List.mem_of_mem_drop (List.mem_of_mem_take hz))⟩
  have e : ((zs.drop l).take (r - l)).length = r - l := by simp; omega
  rw [e]
  exact this
theorem Ints.pos {k : IntKind} {w : World} {a : Option Addr} {n cap : Nat} {zs : List Int} (h : Ints k w (.slice a n cap) zs) (h0 : 0 < zs.length) :
    ∃ b off, a = some ⟨b, off, none⟩ ∧ b < w.heap.size ∧ ∀ j, j < zs.length → w.cell? ⟨b, off + j, none⟩ = some (.int k (zs.getD j 0)) := by
  obtain ⟨⟨hlen, a', cap', he, hn, hc, hz, hp⟩, _⟩ := h
  simp only [Value.slice.injEq] at he
  obtain ⟨rfl, _, rfl⟩ := he
  obtain ⟨b, off, rfl, hb, hcell⟩ := hp h0
  refine ⟨b, off, rfl, hb, fun j hj => hcell j _ ?_⟩
  simp [List.getElem?_map, List.getElem?_eq_getElem hj]
theorem Ints.cap {k : IntKind} {w : World} {a : Option Addr} {n cap : Nat} {zs : List Int} (h : Ints k w (.slice a n cap) zs) : n = zs.length ∧ n ≤ cap ∧ cap ≤ 9223372036854775807 ∧ (a = none → cap = 0) := by
  obtain ⟨⟨hlen, a', cap', he, hn, hc, hz, hp⟩, _⟩ := h
  simp only [Value.slice.injEq] at he
  obtain ⟨rfl, rfl, rfl⟩ := he
  exact ⟨rfl, hn, hc, hz⟩
theorem Ints.nil (k : IntKind) (w : World) : Ints k w (.slice none 0 0) [] := ⟨SlC.nil w 1, by simp⟩

theorem heap_first (w : World) (A B C : Obj) : (((w.alloc A).alloc B).alloc C).heap[w.heap.size]? = some A := by
  rw [heap_alloc_old ((w.alloc A).alloc B) C (by simp; omega), heap_alloc_old (w.alloc A) B (by simp), heap_alloc_new]
theorem heap_second (w : World) (A B C : Obj) : (((w.alloc A).alloc B).alloc C).heap[w.heap.size + 1]? = some B := by
  rw [heap_alloc_old ((w.alloc A).alloc B) C (by simp)]
  have := heap_alloc_new (w.alloc A) B
  simpa using this
theorem heap_third (w : World) (A B C : Obj) : (((w.alloc A).alloc B).alloc C).heap[w.heap.size + 1 + 1]? = some C := by
  have := heap_alloc_new ((w.alloc A).alloc B) C
  simpa using this
theorem cell_of_heap {w : World} {b : Nat} {cs : Array Value} {T : TypeId} {o : Nat} {v : Value} (h : w.heap[b]? = some (.cells cs T (0, 0))) (hc : cs[o]? = some v) : w.cell? ⟨b, o, none⟩ = some v := by simp [World.cell?, h, hc]
theorem free_of_heap {w : World} {b : Nat} {cs : Array Value} {T : TypeId} {o : Nat} (h : w.heap[b]? = some (.cells cs T (0, 0))) : w.frozen? ⟨b, o, none⟩ = false := by simp [World.frozen?, h]
theorem heap_lt {w : World} {b : Nat} {o : Obj} (h : w.heap[b]? = some o) : b < w.heap.size := (Array.getElem?_eq_some_iff.1 h).1
/-- A store into a block of cells. -/
theorem heap_set {w : World} {p k : Nat} {cs : Array Value} {T : TypeId} {u : Value} (h : w.heap[p]? = some (.cells cs T (0, 0))) : (w.setCell ⟨p, k, none⟩ u).heap[p]? = some (.cells (cs.setIfInBounds k u) T (0, 0)) := by
  simp [World.setCell, Array.getElem?_modify, h]

theorem ret_eq {v u : Value} (h : v = u) : Ending.returned v = .returned u := by rw [h]
theorem ret_int {k : IntKind} {a b : Int} (h : a = b) : Ending.returned (.int k a) = .returned (.int k b) := by rw [h]
theorem ret_bool {a b : Bool} (h : a = b) : Ending.returned (.bool a) = .returned (.bool b) := by rw [h]

end Go.Proofs.Ytgdcdkajicgliaa
