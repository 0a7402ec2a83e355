/- Contracts of pixel's formats, find, grey, Size; the document's Size. Conditions: each theorem's own premises. -/
import Derived.Test.YtgdcdkajicgliaaPix1
namespace Go.Proofs.Ytgdcdkajicgliaa
open Go.RowKit
set_option linter.unusedVariables false
set_option maxRecDepth 100000

/-- New blocks, one behind the other. -/
def allocs (w : World) (l : List Obj) : World := l.foldl World.alloc w
theorem allocs_ext (l : List Obj) : ∀ w, Ext w (allocs w l) := by
  induction l with
  | nil => intro w; exact Ext.refl w
  | cons o l ih => intro w; exact ((Ext.refl w).alloc o).trans (ih _)
theorem allocs_heap (l : List Obj) : ∀ (w : World) (i : Nat) (o : Obj), l[i]? = some o → (allocs w l).heap[w.heap.size + i]? = some o := by
  induction l with
  | nil => intro w i o h; simp at h
  | cons x l ih =>
    intro w i o h
    cases i with
    | zero =>
      simp only [List.getElem?_cons_zero, Option.some.injEq] at h
      subst h
      exact (allocs_ext l _).heap (heap_alloc_new w x)
    | succ i =>
      have := ih (w.alloc x) i o (by simpa using h)
      rw [World.size_alloc] at this
      rw [show w.heap.size + (i + 1) = w.heap.size + 1 + i by omega]
      exact this

/-- A format's channels. -/
def chC : Nat → Array Value
  | 1 => #[.int .i64 0, .int .i64 8, .int .i64 0, .int .i64 1, .int .i64 8, .int .i64 8, .int .i64 2, .int .i64 8, .int .i64 16, .int .i64 3, .int .i64 8, .int .i64 24]
  | 2 => #[.int .i64 0, .int .i64 5, .int .i64 11, .int .i64 1, .int .i64 6, .int .i64 5, .int .i64 2, .int .i64 5, .int .i64 0]
  | 3 => #[.int .i64 0, .int .i64 4, .int .i64 12, .int .i64 1, .int .i64 4, .int .i64 8, .int .i64 2, .int .i64 4, .int .i64 4, .int .i64 3, .int .i64 4, .int .i64 0]
  | 4 => #[.int .i64 0, .int .i64 5, .int .i64 11, .int .i64 1, .int .i64 5, .int .i64 6, .int .i64 2, .int .i64 5, .int .i64 1, .int .i64 3, .int .i64 1, .int .i64 0]
  | 5 => #[.int .i64 0, .int .i64 8, .int .i64 0]
  | 6 => #[.int .i64 3, .int .i64 8, .int .i64 0]
  | 7 => #[.int .i64 0, .int .i64 8, .int .i64 0, .int .i64 3, .int .i64 8, .int .i64 8]
  | _ => #[]
/-- All formats, their channels in blocks. -/
def fmtC (c : Nat → Nat) : Array Value := #[.int .i64 0, .slice none 0 0, .int .i32 0, .int .i32 0, .int .i32 0, .int .i32 0, .int .i64 4, .slice (some ⟨c 1, 0, none⟩) 4 4, .int .i32 0, .int .i32 0, .int .i32 0, .int .i32 0, .int .i64 2, .slice (some ⟨c 2, 0, none⟩) 3 3, .int .i32 0, .int .i32 0, .int .i32 0, .int .i32 65536, .int .i64 2, .slice (some ⟨c 3, 0, none⟩) 4 4, .int .i32 0, .int .i32 0, .int .i32 0, .int .i32 0, .int .i64 2, .slice (some ⟨c 4, 0, none⟩) 4 4, .int .i32 0, .int .i32 0, .int .i32 0, .int .i32 0, .int .i64 1, .slice (some ⟨c 5, 0, none⟩) 1 1, .int .i32 0, .int .i32 0, .int .i32 0, .int .i32 65536, .int .i64 1, .slice (some ⟨c 6, 0, none⟩) 1 1, .int .i32 0, .int .i32 0, .int .i32 0, .int .i32 0, .int .i64 2, .slice (some ⟨c 7, 0, none⟩) 2 2, .int .i32 0, .int .i32 0, .int .i32 0, .int .i32 0]

set_option maxHeartbeats 2000000 in
set_option maxRecDepth 20000 in
theorem formats_any (w : World) : Calls Try.prog 114 #[] w fun e w' => ∃ (b : Nat) (c : Nat → Nat), e = .returned (.slice (some ⟨b, 0, none⟩) 8 8) ∧ w'.heap[b]? = some (.cells (fmtC c) 159 (0, 0)) ∧
    (∀ n, 1 ≤ n → n ≤ 7 → w'.heap[c n]? = some (.cells (chC n) 173 (0, 0))) ∧ (∀ n, w.heap.size ≤ c n) ∧ Ext w w' := by
  go_enter Try.func114, Try.ntmps114
  go_wp2
  refine bodyPost_ret (results_tmp rfl _ _ _) rfl ?_
  refine ⟨w.heap.size + 8, fun n => w.heap.size + n, rfl, allocs_heap [_, _, _, _, _, _, _, _, _] w 8 _ rfl, fun n h1 h7 => ?_, fun n => Nat.le_add_right _ _, allocs_ext [_, _, _, _, _, _, _, _, _] w⟩
  have : n = 1 ∨ n = 2 ∨ n = 3 ∨ n = 4 ∨ n = 5 ∨ n = 6 ∨ n = 7 := by omega
  rcases this with rfl | rfl | rfl | rfl | rfl | rfl | rfl
  · exact allocs_heap [_, _, _, _, _, _, _, _, _] w 1 _ rfl
  · exact allocs_heap [_, _, _, _, _, _, _, _, _] w 2 _ rfl
  · exact allocs_heap [_, _, _, _, _, _, _, _, _] w 3 _ rfl
  · exact allocs_heap [_, _, _, _, _, _, _, _, _] w 4 _ rfl
  · exact allocs_heap [_, _, _, _, _, _, _, _, _] w 5 _ rfl
  · exact allocs_heap [_, _, _, _, _, _, _, _, _] w 6 _ rfl
  · exact allocs_heap [_, _, _, _, _, _, _, _, _] w 7 _ rfl
end Go.Proofs.Ytgdcdkajicgliaa
