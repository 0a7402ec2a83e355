/- A state, its cells; whole loads folded; Check. Conditions: each theorem's own premises. -/
import Derived.Test.YtgdcdkajicgliaaOps1
import Derived.Test.YtgdcdkajicgliaaV4
import Derived.Deep.DeepCutAuto
namespace Go.Proofs.Ytgdcdkajicgliaa
open Go.RowKit
set_option linter.unusedVariables false
set_option maxRecDepth 100000

structure Sten where
  (fn rf mask write fl zf zp : Int)
  deriving DecidableEq
def Sten.C (t : Sten) : List Value := [.int .i64 t.fn, .int .i64 t.rf, .int .i64 t.mask, .int .i64 t.write, .int .i64 t.fl, .int .i64 t.zf, .int .i64 t.zp]
structure Bl where
  (eqn src dst : Int)
  deriving DecidableEq
def Bl.C (t : Bl) : List Value := [.int .i64 t.eqn, .int .i64 t.src, .int .i64 t.dst]
structure St where
  sc : Bool
  (x y w h : Int)
  st : Bool
  (f b : Sten)
  (dt dw : Bool)
  df : Int
  bl : Bool
  (rgb al : Bl)
  k : V4
  (m0 m1 m2 m3 : Bool)
  deriving DecidableEq
def St.C (s : St) : List Value := [.bool s.sc, .int .i64 s.x, .int .i64 s.y, .int .i64 s.w, .int .i64 s.h, .bool s.st] ++ s.f.C ++ s.b.C ++ [.bool s.dt, .bool s.dw, .int .i64 s.df, .bool s.bl] ++ s.rgb.C ++ s.al.C ++ s.k.C ++ [.bool s.m0, .bool s.m1, .bool s.m2, .bool s.m3]

def stenOk (t : Sten) : Bool := inV t.fn 1 8 && ([t.rf, t.mask, t.write].all fun n => inV n 0 255) && ([t.fl, t.zf, t.zp].all fun n => inV n 1 8)
def blOk (t : Bl) : Bool := inV t.eqn 1 3 && inV t.src 1 15 && inV t.dst 1 14
def stHead (s : St) : Bool := decide (0 ≤ s.w) && decide (0 ≤ s.h) && inV s.df 1 8 && !(s.k.L.any outV)
def stOk (s : St) : Bool := stHead s && [s.f, s.b].all stenOk && [s.rgb, s.al].all blOk

/-- A whole load, folded. -/
def LdP (T : TypeId) (v : Value) (s : Sem Value) : Prop := Instr.loadAt T v = s
theorem neV : Nonempty (Sem Value) := ⟨pure undef⟩
theorem Ld_fold (T : TypeId) (v : Value) : Instr.loadAt T v = @Classical.epsilon _ neV (LdP T v) := Classical.epsilon_spec (p := LdP T v) ⟨_, rfl⟩
theorem Ld_St (v : Value) : Instr.loadAt 42 v = @Classical.epsilon _ neV (LdP 42 v) := Ld_fold _ _
theorem Ld_Sten (v : Value) : Instr.loadAt 37 v = @Classical.epsilon _ neV (LdP 37 v) := Ld_fold _ _
theorem Ld_Bl (v : Value) : Instr.loadAt 39 v = @Classical.epsilon _ neV (LdP 39 v) := Ld_fold _ _
theorem Ld_V4 (v : Value) : Instr.loadAt 26 v = @Classical.epsilon _ neV (LdP 26 v) := Ld_fold _ _
theorem ld_ok {w : World} {b off : Nat} {T : TypeId} {cs : List Value} (d : TypeDesc) (hr : w.rangeAt b off cs) (hu : Try.prog.underlying T = some d) (hd : d.isRow = true) (hi : (Try.prog.info? T).map (·.size) = some cs.length) :
    (@Classical.epsilon _ neV (LdP T (.pointer (some ⟨b, off, none⟩)))).run Try.prog w = .ok (.agg cs.toArray) w := by
  rw [← Ld_fold]
  simp only [Instr.loadAt, Instr.sureAddr, Sem.run_bind, Sem.run_pure, Result.andThen_ok]
  exact run_loadVar_mid (P := Try.prog) w b off T cs d hr hu hd hi
theorem range_cells {w : World} {b off : Nat} {cs : List Value} {T : TypeId} {L : List Value} (h : w.heap[b]? = some (.cells L.toArray T (0, 0))) (hc : ∀ j v, cs[j]? = some v → L[off + j]? = some v) : w.rangeAt b off cs := fun j v hv => cell_of_heap h (by simpa using hc j v hv)
def StAt (w : World) (b : Nat) (s : St) : Prop := w.heap[b]? = some (.cells s.C.toArray 42 (0, 0))
theorem StAt.load {w : World} {b : Nat} {s : St} (h : StAt w b s) : (@Classical.epsilon _ neV (LdP 42 (.pointer (some ⟨b, 0, none⟩)))).run Try.prog w = .ok (.agg s.C.toArray) w :=
  ld_ok _ (range_cells h (fun j v hv => by simpa using hv)) Try.underlying42 rfl rfl
theorem StAt.loadF {w : World} {b : Nat} {s : St} (h : StAt w b s) : (@Classical.epsilon _ neV (LdP 37 (.pointer (some ⟨b, 6, none⟩)))).run Try.prog w = .ok (.agg s.f.C.toArray) w :=
  ld_ok _ (range_cells h (fun j v hv => by
    have hj : j < 7 := by have := (List.getElem?_eq_some_iff.1 hv).1; exact this
    have : j = 0 ∨ j = 1 ∨ j = 2 ∨ j = 3 ∨ j = 4 ∨ j = 5 ∨ j = 6 := by omega
    rcases this with rfl | rfl | rfl | rfl | rfl | rfl | rfl <;> exact hv)) Try.underlying37 rfl rfl
theorem StAt.loadB {w : World} {b : Nat} {s : St} (h : StAt w b s) : (@Classical.epsilon _ neV (LdP 37 (.pointer (some ⟨b, 13, none⟩)))).run Try.prog w = .ok (.agg s.b.C.toArray) w :=
  ld_ok _ (range_cells h (fun j v hv => by
    have hj : j < 7 := by have := (List.getElem?_eq_some_iff.1 hv).1; exact this
    have : j = 0 ∨ j = 1 ∨ j = 2 ∨ j = 3 ∨ j = 4 ∨ j = 5 ∨ j = 6 := by omega
    rcases this with rfl | rfl | rfl | rfl | rfl | rfl | rfl <;> exact hv)) Try.underlying37 rfl rfl
theorem StAt.loadR {w : World} {b : Nat} {s : St} (h : StAt w b s) : (@Classical.epsilon _ neV (LdP 39 (.pointer (some ⟨b, 24, none⟩)))).run Try.prog w = .ok (.agg s.rgb.C.toArray) w :=
  ld_ok _ (range_cells h (fun j v hv => by
    have hj : j < 3 := by have := (List.getElem?_eq_some_iff.1 hv).1; exact this
    have : j = 0 ∨ j = 1 ∨ j = 2 := by omega
    rcases this with rfl | rfl | rfl <;> exact hv)) Try.underlying39 rfl rfl
theorem StAt.loadA {w : World} {b : Nat} {s : St} (h : StAt w b s) : (@Classical.epsilon _ neV (LdP 39 (.pointer (some ⟨b, 27, none⟩)))).run Try.prog w = .ok (.agg s.al.C.toArray) w :=
  ld_ok _ (range_cells h (fun j v hv => by
    have hj : j < 3 := by have := (List.getElem?_eq_some_iff.1 hv).1; exact this
    have : j = 0 ∨ j = 1 ∨ j = 2 := by omega
    rcases this with rfl | rfl | rfl <;> exact hv)) Try.underlying39 rfl rfl
theorem StAt.loadK {w : World} {b : Nat} {s : St} (h : StAt w b s) : (@Classical.epsilon _ neV (LdP 26 (.pointer (some ⟨b, 30, none⟩)))).run Try.prog w = .ok (.agg s.k.C.toArray) w :=
  ld_ok _ (range_cells h (fun j v hv => by
    have hj : j < 4 := by have := (List.getElem?_eq_some_iff.1 hv).1; exact this
    have : j = 0 ∨ j = 1 ∨ j = 2 ∨ j = 3 := by omega
    rcases this with rfl | rfl | rfl | rfl <;> exact hv)) Try.underlying26 rfl rfl
theorem StAt.cellK {w : World} {b : Nat} {s : St} (h : StAt w b s) (j : Nat) (hj : j < 4) : w.cell? ⟨b, 30 + j, none⟩ = some (.int .i32 (s.k.L.getD j 0)) := by
  have : j = 0 ∨ j = 1 ∨ j = 2 ∨ j = 3 := by omega
  rcases this with rfl | rfl | rfl | rfl <;> exact cell_of_heap h rfl
theorem StAt.ext {w w' : World} {b : Nat} {s : St} (h : StAt w b s) (x : Ext w w') : StAt w' b s := x.heap h
end Go.Proofs.Ytgdcdkajicgliaa
