/- Loads, stores and picks of whole structs and arrays, each as one step of the walk. Conditions: each theorem's own premises. -/
import Derived.Test.YtgdcdkajicgliaaProg
import Derived.Test.YtgdcdkajicgliaaBlk
import Derived.BigQuiet
import Derived.Deep.QuietTactic
import Derived.Lib.Hide
import Derived.ChangeKeysEq
namespace Go.Proofs.Ytgdcdkajicgliaa
open Go.RowKit
set_option linter.unusedVariables false

theorem neF : Nonempty (Sem Value) := ⟨pure undef⟩
theorem neG : Nonempty (Sem Unit) := ⟨pure ()⟩
def LdF (T : TypeId) (v : Value) (s : Sem Value) : Prop := Instr.loadAt T v = s
theorem LdF_eq (T : TypeId) (v : Value) : Instr.loadAt T v = @Classical.epsilon _ neF (LdF T v) := Classical.epsilon_spec (p := LdF T v) ⟨_, rfl⟩
def StF (T : TypeId) (v u : Value) (s : Sem Unit) : Prop := Instr.storeAt T v u = s
theorem StF_eq (T : TypeId) (v u : Value) : Instr.storeAt T v u = @Classical.epsilon _ neG (StF T v u) := Classical.epsilon_spec (p := StF T v u) ⟨_, rfl⟩
def IxF (T : TypeId) (v i : Value) (s : Sem Value) : Prop := Instr.index T v i = s
theorem IxF_eq (T : TypeId) (v i : Value) : Instr.index T v i = @Classical.epsilon _ neF (IxF T v i) := Classical.epsilon_spec (p := IxF T v i) ⟨_, rfl⟩

theorem ldF_ok {w : World} {b off : Nat} {T : TypeId} {cs : List Value} (d : TypeDesc) (hr : w.rangeAt b off cs) (hu : Try.prog.underlying T = some d) (hd : d.isRow = true) (hi : (Try.prog.info? T).map (·.size) = some cs.length) :
    (@Classical.epsilon _ neF (LdF T (.pointer (some ⟨b, off, none⟩)))).run Try.prog w = .ok (.agg cs.toArray) w := by
  rw [← LdF_eq]
  simp only [Instr.loadAt, Instr.sureAddr, Sem.run_bind, Sem.run_pure, Result.andThen_ok]
  exact run_loadVar_mid w b off T cs d hr hu hd hi
theorem rangeF {w : World} {b off : Nat} {cs : List Value} {T : TypeId} {L : List Value} (h : w.heap[b]? = some (.cells L.toArray T (0, 0))) (hc : ∀ j v, cs[j]? = some v → L[off + j]? = some v) : w.rangeAt b off cs := fun j v hv => cell_of_heap h (by simpa using hc j v hv)
/-- A whole block. -/
theorem ldF_whole {w : World} {b : Nat} {T T0 : TypeId} {cs : List Value} (d : TypeDesc) (h : w.heap[b]? = some (.cells cs.toArray T0 (0, 0))) (hu : Try.prog.underlying T = some d) (hd : d.isRow = true) (hi : (Try.prog.info? T).map (·.size) = some cs.length) :
    (@Classical.epsilon _ neF (LdF T (.pointer (some ⟨b, 0, none⟩)))).run Try.prog w = .ok (.agg cs.toArray) w :=
  ldF_ok d (rangeF h fun j v hv => by simpa using hv) hu hd hi
/-- A store into a block's middle. -/
theorem stF_mid {w : World} {b : Nat} (T : TypeId) {T0 : TypeId} {L : List Value} (h : w.heap[b]? = some (.cells L.toArray T0 (0, 0))) (off : Nat) (vs : List Value) (hl : off + vs.length ≤ L.length) (hi : (Try.prog.info? T).map (·.size) = some vs.length) (h1 : vs.toArray.all (·.oneCell') = true) :
    (@Classical.epsilon _ neG (StF T (.pointer (some ⟨b, off, none⟩)) (.agg vs.toArray))).run Try.prog w = .ok () (w.setCells b off vs) ∧ (w.setCells b off vs).heap[b]? = some (.cells (L.take off ++ vs ++ L.drop (off + vs.length)).toArray T0 (0, 0)) ∧ Chg [b] w (w.setCells b off vs) := by
  refine ⟨?_, heap_setCells vs off w L h hl, chg_setCells (by simp) _ _ _ (Chg.refl _ _)⟩
  rw [← StF_eq]
  have := run_storeAt_mid (P := Try.prog) w b off T vs.toArray (fun j hj => ⟨by
    have hj' : j < vs.length := by simpa using hj
    rw [cell_of_heap h (v := L[off + j]) (by simp [show off + j < L.length by omega])]
    rfl, free_of_heap h⟩) (by simpa using hi) h1
  simpa using this
/-- Neither a struct nor an array. -/
def plainD : TypeDesc → Bool
  | .struct _ => false
  | .array _ _ => false
  | _ => true
/-- A pick out of an array of one-celled elements. -/
theorem ixF_one {T e : TypeId} {n : Nat} {d : TypeDesc} (hu : Try.prog.underlying T = some (.array n e)) (he : Try.prog.underlying e = some d) (hd : plainD d = true) (i1 : (Try.prog.info? e).map (·.size) = some 1) (cs : Array Value) (m : Nat) (hm : m < n) (k : IntKind) (v : Value) (hv : cs[m]? = some v) (w : World) :
    (@Classical.epsilon _ neF (IxF T (.agg cs) (.int k m))).run Try.prog w = .ok v w := by
  rw [← IxF_eq]
  have h0 : (0 : Int) ≤ (m : Int) := by omega
  have h1 : (m : Int) < (n : Int) := by omega
  obtain ⟨ie, hi, hs⟩ : ∃ ie, Try.prog.info? e = some ie ∧ ie.size = 1 := by
    cases hi : Try.prog.info? e with
    | none => rw [hi] at i1; cases i1
    | some ie => rw [hi] at i1; exact ⟨ie, rfl, by simpa using i1⟩
  have hsz : Try.prog.cellsOf e = 1 := by simp [Program.cellsOf, hi, hs]
  simp only [Instr.index, asIntOf, Sem.run_bind, Sem.run_pure, Result.andThen_ok, run_underlying hu]
  rw [if_pos ⟨h0, h1⟩]
  have hag : (isAgg e).run Try.prog w = .ok false w := by
    unfold isAgg
    rw [Sem.run_bind, run_underlying he]
    cases d <;> first | rfl | cases hd
  simp only [Sem.run_bind, run_sizeOf w hi, Result.andThen_ok, hsz, part, hag, Int.toNat_natCast, Nat.mul_one, hv, Sem.run_pure, Bool.false_eq_true, if_false]
theorem results_cellT {P : Program} {fn : Func} {a t : Tmp} {T : TypeId} (h : fn.results = #[.cell a T, .tmp t]) (tmps : Array Value) (w : World) (x : Addr) (v : Value) (hp : tmps.getD a undef = .pointer (some x)) (hl : (loadVar T x).run P w = .ok v w)
    (p : Value) (h1 : tmps.getD t undef = p) : (results fn tmps).run P w = .ok (.tuple #[v, p]) w := by
  have hp' : tmps[a]?.getD undef = .pointer (some x) := by rw [← hp]; simp
  have h1' : tmps[t]?.getD undef = p := by rw [← h1]; simp
  simp [results, h, hp', hl, h1', asAddr]
theorem heap_pair (w : World) (A B : Obj) : ((w.alloc A).alloc B).heap[w.heap.size]? = some A ∧ ((w.alloc A).alloc B).heap[w.heap.size + 1]? = some B := by
  refine ⟨((Ext.refl _).alloc B).heap (heap_alloc_new w A), ?_⟩
  have := heap_alloc_new (w.alloc A) B
  rw [World.size_alloc] at this
  exact this
end Go.Proofs.Ytgdcdkajicgliaa
