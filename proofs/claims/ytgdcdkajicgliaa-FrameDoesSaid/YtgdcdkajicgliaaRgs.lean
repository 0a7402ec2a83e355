/- Ranges over functions, in my own words (some blocks being kept by the body): a contract of a sequence (round by round, with what holds in the world where a thing comes), the loop's law, the marks that are left behind. Conditions: each theorem's own premises. -/
import Derived.RangeFuncNested
import Derived.RangeFuncBound
import Derived.RangeFuncCalls
import Derived.RangeFuncLeaves
import Derived.Shelf.Abstract
import Derived.Shelf.RegionOpen
import Derived.WalkKit
import Derived.OwnWalkIn
import Derived.TacticsInMore
import Derived.LoopNIn
import Derived.LoopIn
import Derived.Test.YtgdcdkajicgliaaKit
namespace Go.Proofs.Ytgdcdkajicgliaa
open Go.RowKit
set_option linter.unusedVariables false

/-- Whatever lay lies as it lay, but for blocks from B on that are no cells. -/
structure Turn (B : Nat) (W W' : World) : Prop where
  os : W'.os = W.os
  tape : W'.tape = W.tape
  output : W'.output = W.output
  size : W.heap.size ≤ W'.heap.size
  block : ∀ k, k < W.heap.size → (k < B ∨ ∃ o : Obj, W.heap[k]? = some o ∧ o.isCells = true) → W'.heap[k]? = W.heap[k]?

theorem Ext.turn {W W' : World} (h : Ext W W') (B : Nat) : Turn B W W' := ⟨h.os, h.tape, h.output, h.size, fun k hk _ => h.block k hk⟩
theorem Turn.refl (B : Nat) (W : World) : Turn B W W := (Ext.refl W).turn B
theorem Turn.put {B : Nat} {W : World} {l : Nat} {o : Obj} (o' : Obj) (hl : W.heap[l]? = some o) (ho : o.isCells = false) (hB : B ≤ l) : Turn B W (W.putObj l o') :=
  ⟨(grownBy_putObj' W l o').os, (grownBy_putObj' W l o').tape, (grownBy_putObj' W l o').output, (grownBy_putObj' W l o').size, fun k hk hc => (grownBy_putObj' W l o').block k hk (fun e => by
    cases e
    rcases hc with hc | ⟨o2, h2, hc⟩
    · omega
    · rw [hl] at h2; cases h2; rw [ho] at hc; cases hc)⟩
theorem Turn.cells {B : Nat} {W W' : World} (h : Turn B W W') {b : Nat} {c : Array Value} {t : TypeId} {r : Nat × Nat} (hb : W.heap[b]? = some (.cells c t r)) : W'.heap[b]? = some (.cells c t r) :=
  (h.block b (Array.getElem?_eq_some_iff.1 hb).1 (.inr ⟨_, hb, rfl⟩)).trans hb
theorem Turn.cell {B : Nat} {W W' : World} (h : Turn B W W') {p : Addr} {v : Value} (hc : W.cell? p = some v) : W'.cell? p = some v := by
  obtain ⟨o, h1, h2⟩ := cells_of_cell hc
  exact (World.cell?_of_block (h.block p.block (World.block_lt_of_cell? W p hc) (.inr ⟨o, h1, h2⟩))).trans hc
theorem Turn.frozen {B : Nat} {W W' : World} (h : Turn B W W') {p : Addr} {v : Value} (hc : W.cell? p = some v) : W'.frozen? p = W.frozen? p := by
  obtain ⟨o, h1, h2⟩ := cells_of_cell hc
  exact World.frozen?_of_block (h.block p.block (World.block_lt_of_cell? W p hc) (.inr ⟨o, h1, h2⟩))
theorem Turn.slc {B : Nat} {W W' : World} (h : Turn B W W') {v : Value} {sz n : Nat} {cs : List Value} (hs : SlC W v sz n cs) : SlC W' v sz n cs := by
  obtain ⟨hl, a, cap, rfl, hn, hc, hz, hp⟩ := hs
  refine ⟨hl, a, cap, rfl, hn, hc, hz, fun h0 => ?_⟩
  obtain ⟨b, off, rfl, hb, hcell⟩ := hp h0
  exact ⟨b, off, rfl, Nat.lt_of_lt_of_le hb h.size, fun j u hu => h.cell (hcell j u hu)⟩
theorem Chg.turn {M : List Nat} {B : Nat} {w W W' : World} (h : Chg M w W) (k : Turn B W W') (hB : w.heap.size ≤ B) : Chg M w W' :=
  ⟨k.os.trans h.os, k.tape.trans h.tape, k.output.trans h.output, Nat.le_trans h.size k.size, fun i hi hm => (k.block i (Nat.lt_of_lt_of_le hi h.size) (.inl (by omega))).trans (h.block i hi hm)⟩
theorem Ext.turned {B : Nat} {w W W' : World} (h : Ext w W) (k : Turn B W W') (hB : w.heap.size ≤ B) : Ext w W' :=
  ((h.chg []).turn k hB).ext (by simp)
theorem Turn.below {B n : Nat} {W W' : World} (k : Turn B W W') (hB : n ≤ B) (hn : n ≤ W.heap.size) : Below n W W' :=
  ⟨k.os, k.tape, k.output, k.size, fun i hi => k.block i (by omega) (.inl (by omega))⟩
/-- A way out of a round: what was written are cells, or lay below B. -/
theorem Chg.keeps {M : List Nat} {B : Nat} {W W' : World} (h : Chg M W W') (hM : ∀ m, m ∈ M → m < B ∨ ∃ o : Obj, W.heap[m]? = some o ∧ o.isCells = true) : KeepsFrom B W W' :=
  ⟨h.size, fun k o hB hk ho => (h.block k (Array.getElem?_eq_some_iff.1 hk).1 (fun hm => by
    rcases hM k hm with h1 | ⟨o2, h2, h3⟩
    · omega
    · rw [hk] at h2; cases h2; rw [ho] at h3; cases h3)).trans hk⟩
theorem Chg.below {M : List Nat} {n : Nat} {W W' : World} (h : Chg M W W') (hn : n ≤ W.heap.size) (hM : ∀ m, m ∈ M → n ≤ m) : Below n W W' :=
  ⟨h.os, h.tape, h.output, h.size, fun i hi => h.block i (by omega) (fun hm => by have := hM i hm; omega)⟩
theorem Ext.keeps {B : Nat} {W W' : World} (h : Ext W W') : KeepsFrom B W W' := (h.chg []).keeps (by simp)

/-- A function's contract from its body, where marks may be left. -/
theorem calls_of_marks {P : Program} {f : FuncId} {fn : Func} {c : Code} {args : Array Value} {w : World} {R : Ending → World → Prop} (hf : P.funcs[f]? = some fn) (hb : fn.body = some c)
    (h : c.wp P (bodyPostM Fence.wide 9 P fn R) { tmps := args ++ Array.replicate (fn.ntmps - args.size) undef, defers := [] } w) : Calls P f args w R :=
  (callsIn_wide (n := 9)).1 (callsIn_of_wp_marks hf hb trivial ((wpIn_wide (n := 9)).2 h) rfl)

/-- What is left behind by loops over functions: blocks of no deferred calls, each its own, from B on. -/
def Marks (B : Nat) (W : World) (ds : List Deferred) : Prop :=
  ∃ Ds : List Nat, ds = Ds.map (fun D => ({ target := .collected D, args := #[] } : Deferred)) ∧ Ds.Nodup ∧ ∀ D ∈ Ds, B ≤ D ∧ W.heap[D]? = some (.deferred (some []))
theorem Marks.nil (B : Nat) (W : World) : Marks B W [] := ⟨[], rfl, List.nodup_nil, by simp⟩
theorem Marks.cons {B D : Nat} {W : World} {ds : List Deferred} (h : Marks B W ds) (hD : B ≤ D) (hW : W.heap[D]? = some (.deferred (some []))) (hn : ∀ d ∈ ds, d.target ≠ .collected D) : Marks B W ({ target := .collected D, args := #[] } :: ds) := by
  obtain ⟨Ds, rfl, hnd, hall⟩ := h
  refine ⟨D :: Ds, rfl, List.nodup_cons.2 ⟨fun hm => hn _ (List.mem_map.2 ⟨D, hm, rfl⟩) rfl, hnd⟩, fun E hE => ?_⟩
  rcases List.mem_cons.1 hE with rfl | hE
  · exact ⟨hD, hW⟩
  · exact hall E hE
theorem Marks.lt {B : Nat} {W : World} {ds : List Deferred} (h : Marks B W ds) : ∀ d ∈ ds, ∃ D, d.target = .collected D ∧ D < W.heap.size := by
  obtain ⟨Ds, rfl, hnd, hall⟩ := h
  intro d hd
  obtain ⟨D, hD, rfl⟩ := List.mem_map.1 hd
  exact ⟨D, rfl, (Array.getElem?_eq_some_iff.1 (hall D hD).2).1⟩
theorem Marks.one {B D : Nat} {W : World} (hD : B ≤ D) (hW : W.heap[D]? = some (.deferred (some []))) : Marks B W [{ target := .collected D, args := #[] }] :=
  (Marks.nil B W).cons hD hW (by simp)
theorem Marks.ext {B : Nat} {W W' : World} {ds : List Deferred} (h : Marks B W ds) (x : Ext W W') : Marks B W' ds := by
  obtain ⟨Ds, rfl, hnd, hall⟩ := h
  exact ⟨Ds, rfl, hnd, fun D hD => ⟨(hall D hD).1, x.heap (hall D hD).2⟩⟩
theorem Marks.chg {B : Nat} {M : List Nat} {W W' : World} {ds : List Deferred} (h : Marks B W ds) (x : Chg M W W') (hM : ∀ m, m ∈ M → ∃ o : Obj, W.heap[m]? = some o ∧ o.isCells = true) : Marks B W' ds := by
  obtain ⟨Ds, rfl, hnd, hall⟩ := h
  exact ⟨Ds, rfl, hnd, fun D hD => ⟨(hall D hD).1, x.heap (hall D hD).2 (fun hm => by obtain ⟨o, h1, h2⟩ := hM D hm; rw [(hall D hD).2] at h1; cases h1; cases h2)⟩⟩
/-- The function returns: the marks are come to, one by one. -/
theorem leaves_marks {P : Program} {fn : Func} {tmps : Array Value} {R : Ending → World → Prop} {B : Nat} : ∀ (ds : List Deferred) (W : World), Marks B W ds →
    (∀ W', Turn B W W' → ∃ v, (results fn tmps).run P W' = .ok v W' ∧ R (.returned v) W') → LeavesInM Fence.wide 9 P fn tmps R ds .returning W := by
  intro ds
  induction ds with
  | nil =>
    intro W _ h
    exact h W (Turn.refl _ _)
  | cons d ds ih =>
    intro W hm h
    obtain ⟨Ds, he, hnd, hall⟩ := hm
    cases Ds with
    | nil => cases he
    | cons D Ds =>
      rw [List.map_cons] at he
      obtain ⟨rfl, rfl⟩ := List.cons.inj he
      have hD := hall D (by simp)
      refine ⟨by simp, .inl ⟨D, _, rfl, run_takeDeferred hD.2, ih _ ⟨Ds, rfl, (List.nodup_cons.1 hnd).2, fun E hE => ⟨(hall E (by simp [hE])).1, ?_⟩⟩ ?_⟩⟩
      · refine (World.putObj_heap_other (fun e => ?_)).trans (hall E (by simp [hE])).2
        have := (List.nodup_cons.1 hnd).1
        subst e
        exact this hE
      · intro W' hW'
        have ht : Turn B W (W.putObj D (.deferred none)) := Turn.put _ hD.2 rfl hD.1
        refine h W' ⟨hW'.os.trans ht.os, hW'.tape.trans ht.tape, hW'.output.trans ht.output, Nat.le_trans ht.size hW'.size, fun k hk hc => ?_⟩
        have e1 := ht.block k hk hc
        refine (hW'.block k (Nat.lt_of_lt_of_le hk ht.size) ?_).trans e1
        rcases hc with hc | ⟨o, h1, h2⟩
        · exact .inl hc
        · exact .inr ⟨o, e1.trans h1, h2⟩

/-- Some blocks lie as they lay. -/
def Kept (S : Nat → Prop) (W W' : World) : Prop := W.heap.size ≤ W'.heap.size ∧ ∀ k, S k → k < W.heap.size → W'.heap[k]? = W.heap[k]?
theorem Kept.refl (S : Nat → Prop) (W : World) : Kept S W W := ⟨Nat.le_refl _, fun _ _ _ => rfl⟩
theorem Kept.trans {S : Nat → Prop} {A B C : World} (h : Kept S A B) (k : Kept S B C) : Kept S A C := ⟨Nat.le_trans h.1 k.1, fun i hi hl => (k.2 i hi (Nat.lt_of_lt_of_le hl h.1)).trans (h.2 i hi hl)⟩
theorem Ext.kept {S : Nat → Prop} {A B : World} (h : Ext A B) : Kept S A B := ⟨h.size, fun k _ hk => h.block k hk⟩
theorem Turn.kept {S : Nat → Prop} {m : Nat} {A B : World} (h : Turn m A B) (hS : ∀ k, S k → k < m) : Kept S A B := ⟨h.size, fun k hk hl => h.block k hl (.inl (hS k hk))⟩
theorem Chg.kept {S : Nat → Prop} {M : List Nat} {A B : World} (h : Chg M A B) (hS : ∀ k, k ∈ M → ¬ S k) : Kept S A B := ⟨h.size, fun k hk hl => h.block k hl (fun hm => hS k hm hk)⟩
theorem Kept.heap {S : Nat → Prop} {A B : World} (h : Kept S A B) {k : Nat} (hk : S k) {o : Obj} (ho : A.heap[k]? = some o) : B.heap[k]? = some o := (h.2 k hk (Array.getElem?_eq_some_iff.1 ho).1).trans ho
theorem Kept.cell {S : Nat → Prop} {A B : World} (h : Kept S A B) {p : Addr} (hk : S p.block) {v : Value} (hc : A.cell? p = some v) : B.cell? p = some v :=
  (World.cell?_of_block (h.2 p.block hk (World.block_lt_of_cell? A p hc))).trans hc
theorem SlC.kept {S : Nat → Prop} {w w' : World} {v : Value} {sz n : Nat} {cs : List Value} (h : SlC w v sz n cs) (k : Kept S w w') (hS : ∀ b, v.ownBlock = some b → 0 < n → S b) : SlC w' v sz n cs := by
  obtain ⟨hl, a, cap, rfl, hn, hc, hz, hp⟩ := h
  refine ⟨hl, a, cap, rfl, hn, hc, hz, fun h0 => ?_⟩
  obtain ⟨b, off, rfl, hb, hcell⟩ := hp h0
  exact ⟨b, off, rfl, Nat.lt_of_lt_of_le hb k.1, fun j u hu => k.cell (hS b rfl h0) (hcell j u hu)⟩
theorem Ints.kept {S : Nat → Prop} {kd : IntKind} {w w' : World} {v : Value} {zs : List Int} (h : Ints kd w v zs) (k : Kept S w w') (hS : ∀ b, v.ownBlock = some b → 0 < zs.length → S b) : Ints kd w' v zs := ⟨h.1.kept k hS, h.2⟩
theorem ownsRow_turn {B : Nat} {W W' : World} {base : Nat} {e : TypeId} {size : Nat} {v : Value} {n : Nat} {xs : List Value} (h : W.ownsRow base e size v n xs) (t : Turn B W W') : W'.ownsRow base e size v n xs := by
  refine ⟨h.1, ?_⟩
  rcases h.2 with h2 | ⟨g, cap, cur, e1, hb, hh, rest⟩
  · exact .inl h2
  · exact .inr ⟨g, cap, cur, e1, hb, t.cells hh, rest⟩
/-- A row that grew. -/
theorem Chg.grownM {M : List Nat} {a w w' : World} {row : Option Nat} (h : Chg M a w) (hg : w.grownBy w' row) (hr : ∀ k, row = some k → k ∈ M) : Chg M a w' :=
  ⟨hg.os.trans h.os, hg.tape.trans h.tape, hg.output.trans h.output, Nat.le_trans h.size hg.size, fun k hk hm => (hg.block k (Nat.lt_of_lt_of_le hk h.size) (fun e => hm (hr k e.symm))).trans (h.block k hk hm)⟩
/-- What a function value does that tells N things: Good k args W: args come in round k, in a world W. -/
def Tells (P : Program) (gf : Nat) (lb : Array Value) (N : Nat) (S : Nat → Prop) (Good : Nat → Array Value → World → Prop) (w : World) : Prop :=
  ∀ (l : Nat) (J : Nat → World → Prop) (Jx : World → Prop) (W : World), Below w.heap.size w W → (∀ k A B, J k A → Ext A B → J k B) → (∀ A B, Jx A → Ext A B → Jx B) →
    (∀ k args W1, k < N → J k W1 → Good k args W1 → YieldAt Fence.wide 7 P l args W1 fun e W' => (e = .returned (.bool true) ∧ J (k + 1) W' ∧ Kept S W1 W') ∨ (e = .returned (.bool false) ∧ Jx W')) →
    J 0 W → CallsIn Fence.wide 8 P gf (#[.func (.yield l) #[] #[]] ++ lb) W fun e W' => (∃ v, e = .returned v) ∧ (J N W' ∨ Jx W')

/-- How a round's body may be left. -/
def roundEnd (B : Nat) (S : Nat → Prop) (I : World → Prop) (Ix : Code → World → Prop) (W : World) : Exit → Act → World → Prop
  | .normal, _, W' => KeepsFrom B W W' ∧ Kept S W W' ∧ I W'
  | .ret, _, W' => KeepsFrom B W W' ∧ Ix .ret W'
  | .exit id, _, W' => KeepsFrom B W W' ∧ Ix (.exit id) W'
  | .goto t, _, W' => KeepsFrom B W W' ∧ Ix (.goto t) W'
  | .panic _, _, _ => False
  | .outgrown, _, _ => False

/-- The loop's law. -/
theorem range_law {P : Program} {g : Operand} {ps : Array Tmp} {assign body : Code} {Q : Exit → Act → World → Prop} {a : Act} {w : World} {gf : Nat} {lb : Array Value}
    (hg : a.eval g = .func (.func gf) #[] lb) (eg : ∀ args w, (callFunc gf args).run P w = .ok (.enter gf args) w) {N : Nat} {S : Nat → Prop} {Good : Nat → Array Value → World → Prop} {w0 : World}
    (hseq : Tells P gf lb N S Good w0) (hw0 : Below w0.heap.size w0 w) (hn : ∀ k, S k → k < w.heap.size) (hps : ∀ k args W, Good k args W → args.size = ps.size)
    (hG : ∀ k args A B, Good k args A → Turn w.heap.size A B → Good k args B)
    (I : Nat → World → Prop) (Ix : Code → World → Prop) (hI : ∀ k A B, I k A → Turn w.heap.size A B → I k B) (hIx : ∀ c A B, Ix c A → Turn w.heap.size A B → Ix c B) (h0 : I 0 w)
    (Ax : Nat → Array Value → Act → World → Prop) (hAx : ∀ k args a' A B, Ax k args a' A → Turn w.heap.size A B → Ax k args a' B)
    (hassign : ∀ (l k : Nat) (args : Array Value) (W : World) (K : Act → World → Prop), k < N → I k W → Good k args W → (∀ a' W', Ext W W' → Ax k args a' W' → K a' W') →
      assign.wpIn (Fence.wide.inRound l) 7 P (Exit.then K (fun _ _ _ => False)) { tmps := (ps.zip args).foldl (fun t (p, v) => t.setIfInBounds p v) a.tmps, defers := [] } W)
    (hbody : ∀ (l k : Nat) (args : Array Value) (a' : Act) (W : World), k < N → w.heap.size ≤ W.heap.size → I k W → Good k args W → Ax k args a' W → body.wpIn (Fence.wide.inRound l) 7 P (roundEnd w.heap.size S (I (k + 1)) Ix W) a' W)
    (hdone : ∀ (D : Nat) (W : World), w.heap.size ≤ D → I N W → W.heap[D]? = some (.deferred (some [])) → Q .normal { a with defers := { target := .collected D, args := #[] } :: a.defers } W)
    (hstop : ∀ (D : Nat) (c : Code) (W : World), w.heap.size ≤ D → Ix c W → W.heap[D]? = some (.deferred (some [])) → c.wp P Q { a with defers := { target := .collected D, args := #[] } :: a.defers } W) :
    (Code.rangeFunc g ps assign body).wp P Q a w := by
  refine (wpIn_wide (n := 9)).1 (wpIn_rangeFunc fun fn hfn => ?_)
  obtain ⟨m, hm⟩ : ∃ m, w.heap.size = m := ⟨_, rfl⟩
  obtain ⟨rec, hrec⟩ : ∃ rec : LoopState → Option Code → Loop, ∀ s p, rec s p = { state := s, pending := p, fn, tmps := a.tmps, params := ps, assign, body, defers := m } := ⟨_, fun _ _ => rfl⟩
  have hW : ∃ W, (w.alloc (.deferred (some []))).alloc (.loop (rec .ready none)) = W ∧ Ext w W ∧ W.heap[m]? = some (.deferred (some [])) ∧ W.heap[m + 1]? = some (.loop (rec .ready none)) := by
    refine ⟨_, rfl, ((Ext.refl _).alloc _).alloc _, ?_, ?_⟩
    · exact ((Ext.refl _).alloc _).heap (by rw [← hm]; exact World.alloc_heap_new w _)
    · have := World.alloc_heap_new (w.alloc (.deferred (some []))) (.loop (rec .ready none))
      rwa [World.size_alloc, hm] at this
  obtain ⟨W1, hW1, hx1, hd1, hl1⟩ := hW
  refine ⟨m + 1, [{ target := .collected m, args := #[] }], W1, { target := .fn (.func gf) lb, args := #[.func (.yield (m + 1)) #[] #[]] }, W1, gf, #[.func (.yield (m + 1)) #[] #[]] ++ lb, W1, ?_, ?_, ?_, ?_, fun _ => by omega, ?_⟩
  · have := run_enterLoop_outer (P := P) (w := w) fn a.tmps ps assign body
    rw [hm, ← hrec, hW1] at this
    exact this
  · simp only [resolve, hg]
    simp [go_sem]
  · intro f' _; trivial
  · simp [invoke, go_sem, eg]
  · have hb1 : Below w0.heap.size w0 W1 := hw0.trans (Below.mono hx1 hw0.size)
    have tE : ∀ {A B : World}, Ext A B → Turn m A B := fun h => h.turn m
    refine (hseq (m + 1) (fun k W => I k W ∧ W.heap[m + 1]? = some (.loop (rec .ready none)) ∧ W.heap[m]? = some (.deferred (some [])))
      (fun W => ∃ c, Ix c W ∧ W.heap[m + 1]? = some (.loop (rec .done (some c))) ∧ W.heap[m]? = some (.deferred (some []))) W1 hb1
      (fun k A B h x => ⟨hI k A B h.1 (x.turn _), x.heap h.2.1, x.heap h.2.2⟩)
      (fun A B h x => by obtain ⟨c, h1, h2, h3⟩ := h; exact ⟨c, hIx c A B h1 (x.turn _), x.heap h2, x.heap h3⟩) ?_ ⟨hI 0 w W1 h0 (hx1.turn _), hl1, hd1⟩).mono ?_
    · rintro k args W hk ⟨hi, hl, hd⟩ hgood
      have hy := run_yield (P := P) (args := args) hl (by rw [hrec]; exact hps k args W hgood)
      rw [hrec] at hy
      refine ⟨fn, _, assign, body, hy, roundIn_of_wpIn hfn (hassign (m + 1) k args W _ hk hi hgood fun a' W2 hx2 hA => ?_)⟩
      have hl2 := hx2.heap hl
      have hd2 := hx2.heap hd
      refine ⟨_, run_beginRound hl2 (by rw [hrec]), ?_⟩
      obtain ⟨W3, hW3⟩ : ∃ W3, W2.putObj (m + 1) (.loop { rec .ready none with state := .busy }) = W3 := ⟨_, rfl⟩
      have ht3 : Turn m W2 W3 := by rw [← hW3]; exact Turn.put _ hl2 rfl (by omega)
      have hl3 : W3.heap[m + 1]? = some (.loop { rec .ready none with state := .busy }) := by rw [← hW3]; exact World.putObj_heap_same (Array.getElem?_eq_some_iff.1 hl2).1
      have hd3 : W3.heap[m]? = some (.deferred (some [])) := by rw [← hW3]; exact (World.putObj_heap_other (by omega)).trans hd2
      rw [hW3]
      have hsz2 := hx2.size
      have hsz3 := ht3.size
      have hmW : m + 1 < W.heap.size := (Array.getElem?_eq_some_iff.1 hl).1
      refine wpIn_mono (hbody (m + 1) k args a' W3 hk (by omega) (hI k _ _ (hI k _ _ hi (hx2.turn _)) (by rw [hm]; exact ht3)) (hG k args _ _ (hG k args _ _ hgood (hx2.turn _)) (by rw [hm]; exact ht3)) (hAx k args a' _ _ hA (by rw [hm]; exact ht3))) ?_
      have fin : ∀ (jump : Option Code) (W4 : World), KeepsFrom w.heap.size W3 W4 →
          (Instr.endRound (m + 1) jump).run P W4 = .ok (.bool jump.isNone) (W4.putObj (m + 1) (.loop (rec (if jump.isNone then .ready else .done) jump))) ∧
          Turn m W4 (W4.putObj (m + 1) (.loop (rec (if jump.isNone then .ready else .done) jump))) ∧
          (W4.putObj (m + 1) (.loop (rec (if jump.isNone then .ready else .done) jump))).heap[m + 1]? = some (.loop (rec (if jump.isNone then .ready else .done) jump)) ∧
          (W4.putObj (m + 1) (.loop (rec (if jump.isNone then .ready else .done) jump))).heap[m]? = some (.deferred (some [])) := fun jump W4 hk4 => by
        have hl4 := hk4.same _ _ (by omega) hl3 rfl
        have hd4 := hk4.same _ _ (by omega) hd3 rfl
        have h5 := run_endRound (P := P) jump hl4
        rw [hrec] at h5
        rw [hrec]
        exact ⟨h5, Turn.put _ hl4 rfl (by omega), World.putObj_heap_same (Array.getElem?_eq_some_iff.1 hl4).1, (World.putObj_heap_other (by omega)).trans hd4⟩
      rintro e a3 W4 hp
      cases e with
      | normal =>
        obtain ⟨hk4, hb4, hi4⟩ := hp
        obtain ⟨hr, ht, hl5, hd5⟩ := fin none W4 hk4
        have hs4 := hk4.size
        exact ⟨_, _, hr, .inl ⟨rfl, ⟨hI _ _ _ hi4 (by rw [hm]; exact ht), hl5, hd5⟩, ((hx2.kept.trans (ht3.kept (by rw [← hm]; exact hn))).trans hb4).trans (ht.kept (by rw [← hm]; exact hn))⟩⟩
      | ret =>
        obtain ⟨hk4, hi4⟩ := hp
        obtain ⟨hr, ht, hl5, hd5⟩ := fin (some .ret) W4 hk4
        exact ⟨_, _, hr, .inr ⟨rfl, .ret, hIx _ _ _ hi4 (by rw [hm]; exact ht), hl5, hd5⟩⟩
      | exit id =>
        obtain ⟨hk4, hi4⟩ := hp
        obtain ⟨hr, ht, hl5, hd5⟩ := fin (some (.exit id)) W4 hk4
        exact ⟨_, _, hr, .inr ⟨rfl, .exit id, hIx _ _ _ hi4 (by rw [hm]; exact ht), hl5, hd5⟩⟩
      | goto t =>
        obtain ⟨hk4, hi4⟩ := hp
        obtain ⟨hr, ht, hl5, hd5⟩ := fin (some (.goto t)) W4 hk4
        exact ⟨_, _, hr, .inr ⟨rfl, .goto t, hIx _ _ _ hi4 (by rw [hm]; exact ht), hl5, hd5⟩⟩
      | panic ch => exact hp.elim
      | outgrown => exact hp.elim
    · rintro e W2 ⟨⟨v, rfl⟩, (⟨hi, hl, hd⟩ | ⟨c, hi, hl, hd⟩)⟩
      · have ht : Turn m W2 (W2.putObj (m + 1) (.loop { rec .ready none with state := .exhausted })) := Turn.put _ hl rfl (by omega)
        have h5 : (Instr.endLoop (m + 1)).run P W2 = .ok none (W2.putObj (m + 1) (.loop { rec .ready none with state := .exhausted })) := by have := run_endLoop (P := P) hl (by rw [hrec]; simp); rw [hrec] at this; rw [hrec]; exact this
        exact ⟨none, _, h5, hdone m _ (by omega) (hI _ _ _ hi (by rw [hm]; exact ht)) ((World.putObj_heap_other (by omega)).trans hd)⟩
      · have ht : Turn m W2 (W2.putObj (m + 1) (.loop { rec .done (some c) with state := .exhausted })) := Turn.put _ hl rfl (by omega)
        have h5 : (Instr.endLoop (m + 1)).run P W2 = .ok (some c) (W2.putObj (m + 1) (.loop { rec .done (some c) with state := .exhausted })) := by have := run_endLoop (P := P) hl (by rw [hrec]; simp); rw [hrec] at this; rw [hrec]; exact this
        exact ⟨some c, _, h5, (wpIn_wide (n := 9)).2 (hstop m c _ (by omega) (hIx _ _ _ hi (by rw [hm]; exact ht)) ((World.putObj_heap_other (by omega)).trans hd))⟩
/-- The loop's law, told of the temporaries where it begins. -/
theorem range_lawT {P : Program} {g : Operand} {ps : Array Tmp} {assign body : Code} {Q : Exit → Act → World → Prop} {a : Act} {w : World} {gf : Nat} {lb : Array Value}
    (hg : a.eval g = .func (.func gf) #[] lb) (eg : ∀ args w, (callFunc gf args).run P w = .ok (.enter gf args) w) {N : Nat} {S : Nat → Prop} {Good : Nat → Array Value → World → Prop} {w0 : World}
    (hseq : Tells P gf lb N S Good w0) (hw0 : Below w0.heap.size w0 w) (hn : ∀ k, S k → k < w.heap.size) (hps : ∀ k args W, Good k args W → args.size = ps.size)
    (hG : ∀ k args A B, Good k args A → Turn w.heap.size A B → Good k args B)
    (I : Nat → World → Prop) (Ix : Code → World → Prop) (hI : ∀ k A B, I k A → Turn w.heap.size A B → I k B) (hIx : ∀ c A B, Ix c A → Turn w.heap.size A B → Ix c B) (h0 : I 0 w)
    (Ax : Array Value → Nat → Array Value → Act → World → Prop) (hAx : ∀ t k args a' A B, Ax t k args a' A → Turn w.heap.size A B → Ax t k args a' B)
    (hassign : ∀ (l k : Nat) (args : Array Value) (W : World) (K : Act → World → Prop), k < N → I k W → Good k args W → (∀ a' W', Ext W W' → Ax a.tmps k args a' W' → K a' W') →
      assign.wpIn (Fence.wide.inRound l) 7 P (Exit.then K (fun _ _ _ => False)) { tmps := (ps.zip args).foldl (fun t (p, v) => t.setIfInBounds p v) a.tmps, defers := [] } W)
    (hbody : ∀ (l k : Nat) (args : Array Value) (a' : Act) (W : World), k < N → w.heap.size ≤ W.heap.size → I k W → Good k args W → Ax a.tmps k args a' W → body.wpIn (Fence.wide.inRound l) 7 P (roundEnd w.heap.size S (I (k + 1)) Ix W) a' W)
    (hdone : ∀ (D : Nat) (W : World), w.heap.size ≤ D → I N W → W.heap[D]? = some (.deferred (some [])) → Q .normal { a with defers := { target := .collected D, args := #[] } :: a.defers } W)
    (hstop : ∀ (D : Nat) (c : Code) (W : World), w.heap.size ≤ D → Ix c W → W.heap[D]? = some (.deferred (some [])) → c.wp P Q { a with defers := { target := .collected D, args := #[] } :: a.defers } W) :
    (Code.rangeFunc g ps assign body).wp P Q a w :=
  range_law hg eg hseq hw0 hn hps hG I Ix hI hIx h0 (Ax a.tmps) (fun k args a' A B h t => hAx a.tmps k args a' A B h t) hassign hbody hdone hstop
theorem Chg.lt {M : List Nat} {A W : World} (h : Chg M A W) {D : Nat} (hD : A.heap.size ≤ D) {o : Obj} (hW : W.heap[D]? = some o) {ds : List Deferred} {B : Nat} (hm : Marks B A ds) : ∀ d ∈ ds, d.target ≠ .collected D := by
  obtain ⟨Ds, rfl, hnd, hall⟩ := hm
  intro d hd he
  obtain ⟨E, hE, rfl⟩ := List.mem_map.1 hd
  cases he
  have := (Array.getElem?_eq_some_iff.1 (hall D hE).2).1
  omega
/-- One mark more, behind a loop. -/
theorem Marks.more {M : List Nat} {A W : World} {D B : Nat} {ds : List Deferred} (hm : Marks B A ds) (h : Chg M A W) (hM : ∀ m, m ∈ M → ∃ o : Obj, A.heap[m]? = some o ∧ o.isCells = true) (hB : B ≤ A.heap.size) (hD : A.heap.size ≤ D) (hW : W.heap[D]? = some (.deferred (some []))) :
    Marks B W ({ target := .collected D, args := #[] } :: ds) :=
  (hm.chg h hM).cons (by omega) hW (h.lt hD hW hm)
/-- A return behind loops over functions. -/
theorem retM {P : Program} {fn : Func} {R : Ending → World → Prop} {B : Nat} {tmps : Array Value} {ds : List Deferred} {W : World} (hm : Marks B W ds)
    (h : ∀ W', Turn B W W' → ∃ v, (results fn tmps).run P W' = .ok v W' ∧ R (.returned v) W') : bodyPostM Fence.wide 9 P fn R .ret { tmps := tmps, defers := ds } W := leaves_marks ds W hm h
end Go.Proofs.Ytgdcdkajicgliaa
