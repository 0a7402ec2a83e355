/- Contract of fetch.prims; plain words on primitives. Conditions: each theorem's own premises. -/
import Derived.Test.YtgbcngmciabpkaaFet8
namespace Go.Proofs.Ytgbcngmciabpkaa
open Go.RowKit Go.ChangeShapes
set_option linter.unusedVariables false

def szR (m : Int) : Nat := if m = 0 then 1 else if m = 1 ∨ m = 2 ∨ m = 3 then 2 else 3
def spR (m : Int) : Nat := if m = 1 then 2 else if m = 4 then 3 else 1
/-- What prims lays beside its function value. -/
structure PrAt (w : World) (n : Nat) (m : Int) (lv : Value) : Prop where
  mode : w.heap[n]? = some (.cells #[.int .i64 m] 3 (0, 0))
  list : w.heap[n + 1]? = some (.cells #[lv] 43 (0, 0))
  size : w.heap[n + 1 + 1]? = some (.cells #[.int .i64 (szR m : Nat)] 3 (0, 0))
  step : w.heap[n + 1 + 1 + 1]? = some (.cells #[.int .i64 (spR m : Nat)] 3 (0, 0))
theorem PrAt.ext {w w' : World} {n : Nat} {m : Int} {lv : Value} (h : PrAt w n m lv) (x : Ext w w') : PrAt w' n m lv := ⟨x.heap h.mode, x.heap h.list, x.heap h.size, x.heap h.step⟩
def prF (n : Nat) : Value := .func (.func 49) #[] #[.pointer (some ⟨n + 1 + 1, 0, none⟩), .pointer (some ⟨n + 1, 0, none⟩), .pointer (some ⟨n + 1 + 1 + 1, 0, none⟩), .pointer (some ⟨n, 0, none⟩)]
theorem heap_four (w : World) (A B C D : Obj) : ((((w.alloc A).alloc B).alloc C).alloc D).heap[w.heap.size]? = some A ∧ ((((w.alloc A).alloc B).alloc C).alloc D).heap[w.heap.size + 1]? = some B ∧ ((((w.alloc A).alloc B).alloc C).alloc D).heap[w.heap.size + 1 + 1]? = some C ∧ ((((w.alloc A).alloc B).alloc C).alloc D).heap[w.heap.size + 1 + 1 + 1]? = some D := by
  have h1 := heap_pair w A B
  have h2 := heap_pair ((w.alloc A).alloc B) C D
  rw [World.size_alloc, World.size_alloc] at h2
  have x : Ext ((w.alloc A).alloc B) ((((w.alloc A).alloc B).alloc C).alloc D) := ((Ext.refl _).alloc _).alloc _
  exact ⟨x.heap h1.1, x.heap h1.2, h2.1, h2.2⟩
theorem modes {m : Int} (h1 : 0 ≤ m) (h2 : m ≤ 6) : m = 0 ∨ m = 1 ∨ m = 2 ∨ m = 3 ∨ m = 4 ∨ m = 5 ∨ m = 6 := by omega
theorem prims_any (m : Int) (h1 : 0 ≤ m) (h2 : m ≤ 6) (a : Option Addr) (len cap : Nat) (w : World) : Calls Try.prog 34 #[.int .i64 m, .slice a len cap] w fun e w' => ∃ n, e = .returned (prF n) ∧ w.heap.size ≤ n ∧ PrAt w' n m (.slice a len cap) ∧ Ext w w' := by
  rcases modes h1 h2 with rfl | rfl | rfl | rfl | rfl | rfl | rfl
  all_goals clear h1 h2
  all_goals
    go_enter Try.func34, Try.ntmps34
    go_wp2
    go_ret
    exact ⟨_, rfl, Nat.le_refl _, ⟨(heap_four _ _ _ _ _).1, (heap_four _ _ _ _ _).2.1, (heap_four _ _ _ _ _).2.2.1, (heap_four _ _ _ _ _).2.2.2⟩, ((((Ext.refl _).alloc _).alloc _).alloc _).alloc _⟩
end Go.Proofs.Ytgbcngmciabpkaa
