/- Whole blocks: loads and stores of structs and arrays. Conditions: each theorem's own premises. -/
import Derived.Test.YtgdcdkajicgliaaKit
import Derived.Deep.MidRow
namespace Go.Proofs.Ytgdcdkajicgliaa
open Go.RowKit
set_option linter.unusedVariables false

theorem rangeAt_whole {w : World} {b : Nat} {cs : Array Value} {T : TypeId} (h : w.heap[b]? = some (.cells cs T (0, 0))) : w.rangeAt b 0 cs.toList := fun j v hv => by
  rw [Nat.zero_add]
  exact cell_of_heap h (by simpa using hv)
theorem there_whole {w : World} {b : Nat} {cs : Array Value} {T : TypeId} (h : w.heap[b]? = some (.cells cs T (0, 0))) : w.there b 0 cs.size := fun j hj => by
  rw [Nat.zero_add]
  exact ⟨by rw [cell_of_heap h (v := cs[j]) (by simp [hj])]; rfl, free_of_heap h⟩

theorem heap_setCells {b : Nat} {T : TypeId} : ∀ (vs : List Value) (o : Nat) (w : World) (L : List Value), w.heap[b]? = some (.cells L.toArray T (0, 0)) → o + vs.length ≤ L.length →
    (w.setCells b o vs).heap[b]? = some (.cells (L.take o ++ vs ++ L.drop (o + vs.length)).toArray T (0, 0))
  | [], o, w, L, h, _ => by
    show w.heap[b]? = _
    simp [h]
  | v :: vs, o, w, L, h, hl => by
    simp only [List.length_cons] at hl
    have h1 := heap_set (k := o) (u := v) h
    rw [List.setIfInBounds_toArray] at h1
    have := heap_setCells vs (o + 1) (w.setCell ⟨b, o, none⟩ v) (L.set o v) h1 (by simp; omega)
    show ((w.setCell ⟨b, o, none⟩ v).setCells b (o + 1) vs).heap[b]? = _
    rw [this]
    have e1 : (L.set o v).take (o + 1) = L.take o ++ [v] := by
      rw [List.take_succ_eq_append_getElem (by simp; omega)]
      simp [List.take_set_of_le (Nat.le_refl o)]
    have e2 : (L.set o v).drop (o + 1 + vs.length) = L.drop (o + 1 + vs.length) := by
      rw [List.drop_set_of_lt (by omega)]
    rw [e1, e2]
    simp [Nat.add_assoc, Nat.add_comm 1]
theorem heap_setCells_whole {w : World} {b : Nat} {cs : Array Value} {T : TypeId} (h : w.heap[b]? = some (.cells cs T (0, 0))) (vs : Array Value) (hl : vs.size = cs.size) : (w.setCells b 0 vs.toList).heap[b]? = some (.cells vs T (0, 0)) := by
  have := heap_setCells vs.toList 0 w cs.toList (by simpa using h) (by simp [hl])
  have e : List.drop (0 + vs.toList.length) cs.toList = [] := List.drop_eq_nil_of_le (by simp [hl])
  rw [this, e]
  simp
theorem chg_setCells {M : List Nat} {a : World} {b : Nat} (hb : b ∈ M) : ∀ (vs : List Value) (o : Nat) (w : World), Chg M a w → Chg M a (w.setCells b o vs)
  | [], _, _, h => h
  | v :: vs, o, w, h => chg_setCells hb vs (o + 1) (w.setCell ⟨b, o, none⟩ v) (h.setCell hb v)
theorem ext_setCells {a : World} {b : Nat} (hb : a.heap.size ≤ b) : ∀ (vs : List Value) (o : Nat) (w : World), Ext a w → Ext a (w.setCells b o vs)
  | [], _, _, h => h
  | v :: vs, o, w, h => ext_setCells hb vs (o + 1) (w.setCell ⟨b, o, none⟩ v) (h.setCell hb v)

variable {P : Program}
/-- A whole block is loaded. -/
theorem wpList_load_whole {ops : Array Oper} {rest : List Oper} {op : Oper} {a : Act} {w : World} {Q : Exit → Act → World → Prop} (hgd : op.guard = none) (ty : TypeId) (x : Operand) (ho : op.op = .load ty x)
    (b : Nat) (hx : a.eval x = .pointer (some ⟨b, 0, none⟩)) (cs : Array Value) (T : TypeId) (hc : w.heap[b]? = some (.cells cs T (0, 0))) (d : TypeDesc)
    (hu : P.underlying ty = some d) (hd : d.isRow = true) (hi : (P.info? ty).map (·.size) = some cs.size)
    (h : wpList P ops Q rest (a.put op.dst (.agg cs)) w) : wpList P ops Q (op :: rest) a w := by
  have := wpList_load_mid (P := P) (ops := ops) (rest := rest) (Q := Q) hgd ty x ho b 0 hx cs.toList d (rangeAt_whole hc) hu hd (by simpa using hi)
  exact this (by simpa using h)
/-- A whole block is stored. -/
theorem wpList_store_whole {ops : Array Oper} {rest : List Oper} {op : Oper} {a : Act} {w : World} {Q : Exit → Act → World → Prop} (hgd : op.guard = none) (ty : TypeId) (x y : Operand) (ho : op.op = .store ty x y)
    (b : Nat) (cells : Array Value) (hx : a.eval x = .pointer (some ⟨b, 0, none⟩)) (hy : a.eval y = .agg cells)
    (cs : Array Value) (T : TypeId) (hc : w.heap[b]? = some (.cells cs T (0, 0))) (hl : cells.size = cs.size) (hi : (P.info? ty).map (·.size) = some cells.size) (h1 : cells.all (·.oneCell') = true)
    (h : ∀ w', w'.heap[b]? = some (.cells cells T (0, 0)) → Chg [b] w w' → wpList P ops Q rest (a.put op.dst undef) w') : wpList P ops Q (op :: rest) a w :=
  wpList_store_mid hgd ty x y ho b 0 cells hx hy (by rw [hl]; exact there_whole hc) hi h1 (h _ (heap_setCells_whole hc cells hl) (chg_setCells (by simp) _ _ _ (Chg.refl _ _)))
theorem run_loadVar_whole {w : World} {b : Nat} {cs : Array Value} {T : TypeId} (ty : TypeId) (d : TypeDesc) (hc : w.heap[b]? = some (.cells cs T (0, 0))) (hu : P.underlying ty = some d) (hd : d.isRow = true) (hi : (P.info? ty).map (·.size) = some cs.size) :
    (loadVar ty ⟨b, 0, none⟩).run P w = .ok (.agg cs) w := by
  have := run_loadVar_mid (P := P) w b 0 ty cs.toList d (rangeAt_whole hc) hu hd (by simpa using hi)
  simpa using this
/-- Results of which the first lies in a block. -/
theorem results_cell3 {fn : Func} {a t u : Tmp} {T : TypeId} (h : fn.results = #[.cell a T, .tmp t, .tmp u]) (tmps : Array Value) (w : World) (x : Addr) (v : Value) (hp : tmps.getD a undef = .pointer (some x)) (hl : (loadVar T x).run P w = .ok v w) :
    (results fn tmps).run P w = .ok (.tuple #[v, tmps.getD t undef, tmps.getD u undef]) w := by
  have hp' : tmps[a]?.getD undef = .pointer (some x) := by rw [← hp]; simp
  simp [results, h, hp', hl, asAddr]
theorem results_cell1 {fn : Func} {a : Tmp} {T : TypeId} (h : fn.results = #[.cell a T]) (tmps : Array Value) (w : World) (x : Addr) (v : Value) (hp : tmps.getD a undef = .pointer (some x)) (hl : (loadVar T x).run P w = .ok v w) :
    (results fn tmps).run P w = .ok v w := by
  have hp' : tmps[a]?.getD undef = .pointer (some x) := by rw [← hp]; simp
  simp [results, h, hp', hl, asAddr]
end Go.Proofs.Ytgdcdkajicgliaa
