/- What becomes of a cell, in plain words. No conditions. -/
import Derived.Test.YtgdcdkajicgliaaOps16
import Derived.Test.YtgdcdkajicgliaaOps17
namespace Go.Proofs.Ytgdcdkajicgliaa
open Go.RowKit
set_option linter.unusedVariables false
set_option maxRecDepth 100000
set_option linter.unusedSimpArgs false

structure Fr where
  (x y z iw : Int)
  front : Bool
  pt : V4
  vars : Value
def Fr.C (f : Fr) : List Value := [.int .i64 f.x, .int .i64 f.y, .int .i32 f.z, .int .i32 f.iw, .bool f.front] ++ f.pt.C ++ [f.vars]
def FAt (w : World) (b : Nat) (f : Fr) : Prop := w.heap[b]? = some (.cells f.C.toArray 55 (0, 0))
def boxV (s : St) (f : Fr) : Bool := liesV f.x s.x s.w && liesV f.y s.y s.h
def sideV (s : St) (f : Fr) : Sten := if f.front then s.f else s.b
def testV (t : Sten) (c : Ce) : Bool := cmpV t.fn (bits .and .i64 t.rf t.mask) (bits .and .i64 c.sten t.mask)
def pickV (s : St) (m v : V4) : V4 := ⟨if s.m0 then m.a else v.a, if s.m1 then m.b else v.b, if s.m2 then m.c else v.c, if s.m3 then m.d else v.d⟩
def laidV (s : St) (f : Fr) (c : Ce) : Ce := if s.dt && s.dw then { c with dep := clV f.z } else c
def passV (s : St) (f : Fr) (color : V4) (c : Ce) : Ce :=
  let c2 := laidV s f (turned s.st (sideV s f).zp (sideV s f) c)
  { c2 with v := pickV s (mixV s color c2.v) c2.v }
def applyV (s : St) (f : Fr) (color : V4) (c : Ce) : Ce × Bool :=
  if s.sc && !boxV s f then (c, false)
  else if s.st && !testV (sideV s f) c then (turned s.st (sideV s f).fl (sideV s f) c, false)
  else if s.dt && !cmpV s.df (clV f.z) c.dep then (turned s.st (sideV s f).zf (sideV s f) c, false)
  else (passV s f color c, true)
def ceZ : Ce := ⟨zero4, 0, 0⟩
def applyR (s : St) (f : Fr) (color : V4) (c : Ce) : Ce × Bool × Int :=
  if stOk s then if ceOk c then ((applyV s f color c).1, (applyV s f color c).2, 0) else (ceZ, false, 2) else (ceZ, false, 340)
def pkS (s : St) (M : V4) (c : Ce) : Nat → Ce
  | 0 => c
  | 1 => { c with v := { c.v with a := if s.m0 then M.a else c.v.a } }
  | 2 => { c with v := { c.v with a := if s.m0 then M.a else c.v.a, b := if s.m1 then M.b else c.v.b } }
  | 3 => { c with v := { c.v with a := if s.m0 then M.a else c.v.a, b := if s.m1 then M.b else c.v.b, c := if s.m2 then M.c else c.v.c } }
  | _ => { c with v := pickV s M c.v }
theorem CAt.set0 {w : World} {b : Nat} {c : Ce} (h : CAt w b c) (x : Int) : CAt (w.setCell ⟨b, 0, none⟩ (.int .i32 x)) b { c with v := { c.v with a := x } } := heap_set (k := 0) (u := .int .i32 x) h
theorem CAt.set1 {w : World} {b : Nat} {c : Ce} (h : CAt w b c) (x : Int) : CAt (w.setCell ⟨b, 1, none⟩ (.int .i32 x)) b { c with v := { c.v with b := x } } := heap_set (k := 1) (u := .int .i32 x) h
theorem CAt.set2 {w : World} {b : Nat} {c : Ce} (h : CAt w b c) (x : Int) : CAt (w.setCell ⟨b, 2, none⟩ (.int .i32 x)) b { c with v := { c.v with c := x } } := heap_set (k := 2) (u := .int .i32 x) h
theorem CAt.set3 {w : World} {b : Nat} {c : Ce} (h : CAt w b c) (x : Int) : CAt (w.setCell ⟨b, 3, none⟩ (.int .i32 x)) b { c with v := { c.v with d := x } } := heap_set (k := 3) (u := .int .i32 x) h
theorem CAt.set4 {w : World} {b : Nat} {c : Ce} (h : CAt w b c) (x : Int) : CAt (w.setCell ⟨b, 4, none⟩ (.int .i32 x)) b { c with dep := x } := heap_set (k := 4) (u := .int .i32 x) h
theorem CAt.set5 {w : World} {b : Nat} {c : Ce} (h : CAt w b c) (x : Int) : CAt (w.setCell ⟨b, 5, none⟩ (.int .i64 x)) b { c with sten := x } := heap_set (k := 5) (u := .int .i64 x) h
theorem CAt.load2 {w : World} {b : Nat} {c : Ce} (h : CAt w b c) : (@Classical.epsilon _ neV (LdP 45 (.pointer (some ⟨b, 0, none⟩)))).run Try.prog w = .ok (.agg c.C.toArray) w := h.load
theorem CAt.store2 {w : World} {b : Nat} {c : Ce} (h : CAt w b c) (u : Ce) : (@Classical.epsilon _ neU (StP 45 (.pointer (some ⟨b, 0, none⟩)) (.agg u.C.toArray))).run Try.prog w = .ok () (w.setCells b 0 u.C) := h.store u
theorem CAt.store0 {w : World} {b : Nat} {c : Ce} (h : CAt w b c) : (@Classical.epsilon _ neU (StP 45 (.pointer (some ⟨b, 0, none⟩)) (.agg #[.int .i32 0, .int .i32 0, .int .i32 0, .int .i32 0, .int .i32 0, .int .i64 0]))).run Try.prog w = .ok () (w.setCells b 0 ceZ.C) := h.store ceZ
theorem CAt.cellV {w : World} {b : Nat} {c : Ce} (h : CAt w b c) (j : Nat) (hj : j < 4) : w.cell? ⟨b, 0 + j, none⟩ = some (.int .i32 (c.v.L.getD j 0)) := by
  have : j = 0 ∨ j = 1 ∨ j = 2 ∨ j = 3 := by omega
  rcases this with rfl | rfl | rfl | rfl <;> exact cell_of_heap h rfl
theorem TAt.ext {w w' : World} {b : Nat} {t : Sten} (h : TAt w b t) (x : Ext w w') : TAt w' b t := x.heap h
theorem TAt.chg {M : List Nat} {w w' : World} {b : Nat} {t : Sten} (h : TAt w b t) (x : Chg M w w') (hm : b ∉ M) : TAt w' b t := x.heap h hm
theorem FAt.ext {w w' : World} {b : Nat} {t : Fr} (h : FAt w b t) (x : Ext w w') : FAt w' b t := x.heap h
theorem FAt.chg {M : List Nat} {w w' : World} {b : Nat} {t : Fr} (h : FAt w b t) (x : Chg M w w') (hm : b ∉ M) : FAt w' b t := x.heap h hm
theorem StAt.chg {M : List Nat} {w w' : World} {b : Nat} {t : St} (h : StAt w b t) (x : Chg M w w') (hm : b ∉ M) : StAt w' b t := x.heap h hm
theorem St_Sten (v u : Value) : Instr.storeAt 37 v u = @Classical.epsilon _ neU (StP 37 v u) := St_fold _ _ _
theorem TAt.store2 {w : World} {b : Nat} {t : Sten} (h : TAt w b t) (u : Sten) : (@Classical.epsilon _ neU (StP 37 (.pointer (some ⟨b, 0, none⟩)) (.agg u.C.toArray))).run Try.prog w = .ok () (w.setCells b 0 u.C) := st_ok _ h rfl rfl (by simp [Sten.C, Value.oneCell'])
def sten0 : Sten := ⟨0, 0, 0, 0, 0, 0, 0⟩
theorem ceOk_dep {c : Ce} (h : ceOk c = true) : 0 ≤ c.dep ∧ c.dep ≤ 65536 := by
  unfold ceOk outV at h
  simp only [Bool.and_eq_true, Bool.not_eq_true', Bool.or_eq_false_iff, decide_eq_false_iff_not] at h
  omega
theorem clV_in (x : Int) : 0 ≤ clV x ∧ clV x ≤ 65536 := by unfold clV; omega
theorem mixR_ok {s : St} (h : stOk s = true) (a b : V4) : mixR s a b = mixV s a b := by unfold mixR; rw [if_pos h]
theorem TAt.stored {w : World} {b : Nat} {t : Sten} (h : TAt w b t) (u : Sten) : TAt (w.setCells b 0 u.C) b u := heap_setCells_whole h u.C.toArray rfl
theorem results_cell3' {P : Program} {fn : Func} {a t u : Tmp} {T : TypeId} (h : fn.results = #[.cell a T, .tmp t, .tmp u]) (tmps : Array Value) (w : World) (x : Addr) (v : Value) (hp : tmps.getD a undef = .pointer (some x)) (hl : (loadVar T x).run P w = .ok v w)
    (p q : Value) (h1 : tmps.getD t undef = p) (h2 : tmps.getD u undef = q) : (results fn tmps).run P w = .ok (.tuple #[v, p, q]) w := by rw [← h1, ← h2]; exact results_cell3 h tmps w x v hp hl
theorem results_cell2' {P : Program} {fn : Func} {a t : Tmp} {T : TypeId} (h : fn.results = #[.cell a T, .tmp t]) (tmps : Array Value) (w : World) (x : Addr) (v : Value) (hp : tmps.getD a undef = .pointer (some x)) (hl : (loadVar T x).run P w = .ok v w)
    (p : Value) (h1 : tmps.getD t undef = p) : (results fn tmps).run P w = .ok (.tuple #[v, p]) w := by
  have hp' : tmps[a]?.getD undef = .pointer (some x) := by rw [← hp]; simp
  have h1' : tmps[t]?.getD undef = p := by rw [← h1]; simp
  simp [results, h, hp', hl, h1', asAddr]
theorem applyR_not {s : St} (h : stOk s = false) (f : Fr) (color : V4) (c : Ce) : applyR s f color c = (ceZ, false, 340) := by unfold applyR; rw [h]; rfl
theorem applyR_arg {s : St} (h : stOk s = true) {c : Ce} (hc : ceOk c = false) (f : Fr) (color : V4) : applyR s f color c = (ceZ, false, 2) := by unfold applyR; rw [h, hc]; rfl
theorem applyR_ok {s : St} (h : stOk s = true) {c : Ce} (hc : ceOk c = true) (f : Fr) (color : V4) : applyR s f color c = ((applyV s f color c).1, (applyV s f color c).2, 0) := by unfold applyR; rw [h, hc]; rfl
theorem applyV_box {s : St} {f : Fr} (h : (s.sc && !boxV s f) = true) (color : V4) (c : Ce) : applyV s f color c = (c, false) := by unfold applyV; rw [h]; rfl
theorem applyV_st {s : St} {f : Fr} {c : Ce} (h : (s.sc && !boxV s f) = false) (h1 : (s.st && !testV (sideV s f) c) = true) (color : V4) : applyV s f color c = (turned s.st (sideV s f).fl (sideV s f) c, false) := by unfold applyV; rw [h, h1]; rfl
theorem applyV_dt {s : St} {f : Fr} {c : Ce} (h : (s.sc && !boxV s f) = false) (h1 : (s.st && !testV (sideV s f) c) = false) (h2 : (s.dt && !cmpV s.df (clV f.z) c.dep) = true) (color : V4) : applyV s f color c = (turned s.st (sideV s f).zf (sideV s f) c, false) := by unfold applyV; rw [h, h1, h2]; rfl
theorem applyV_pass {s : St} {f : Fr} {c : Ce} (h : (s.sc && !boxV s f) = false) (h1 : (s.st && !testV (sideV s f) c) = false) (h2 : (s.dt && !cmpV s.df (clV f.z) c.dep) = false) (color : V4) : applyV s f color c = (passV s f color c, true) := by unfold applyV; rw [h, h1, h2]; rfl
end Go.Proofs.Ytgdcdkajicgliaa
