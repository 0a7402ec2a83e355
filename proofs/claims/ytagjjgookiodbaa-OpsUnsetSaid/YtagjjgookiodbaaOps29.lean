/- What plays no part, in plain words; stores into the middle of a state; the walk of OpsUnset. Conditions: each theorem's own premises. -/
import Derived.Test.YtagjjgookiodbaaOps28
namespace Go.Proofs.Ytagjjgookiodbaa
open Go.RowKit
set_option linter.unusedVariables false
set_option linter.unusedSimpArgs false

def mSc (s o t : St) : St := if s.sc then t else { t with x := o.x, y := o.y, w := o.w, h := o.h }
def mSt (s o t : St) : St := if s.st then t else { t with f := o.f, b := o.b }
def mDt (s o t : St) : St := if s.dt then t else { t with df := o.df, dw := o.dw }
def mBl (s o t : St) : St := if s.bl then t else { t with rgb := o.rgb, al := o.al, k := o.k }
def mAll (s o : St) : St := mBl s o (mDt s o (mSt s o (mSc s o s)))
theorem mSc_sc (s o t : St) : (mSc s o t).sc = t.sc := by unfold mSc; cases s.sc <;> rfl
theorem mSc_x (s o t : St) : (mSc s o t).x = (if s.sc then t.x else o.x) := by unfold mSc; cases s.sc <;> rfl
theorem mSc_y (s o t : St) : (mSc s o t).y = (if s.sc then t.y else o.y) := by unfold mSc; cases s.sc <;> rfl
theorem mSc_w (s o t : St) : (mSc s o t).w = (if s.sc then t.w else o.w) := by unfold mSc; cases s.sc <;> rfl
theorem mSc_h (s o t : St) : (mSc s o t).h = (if s.sc then t.h else o.h) := by unfold mSc; cases s.sc <;> rfl
theorem mSc_st (s o t : St) : (mSc s o t).st = t.st := by unfold mSc; cases s.sc <;> rfl
theorem mSc_f (s o t : St) : (mSc s o t).f = t.f := by unfold mSc; cases s.sc <;> rfl
theorem mSc_b (s o t : St) : (mSc s o t).b = t.b := by unfold mSc; cases s.sc <;> rfl
theorem mSc_dt (s o t : St) : (mSc s o t).dt = t.dt := by unfold mSc; cases s.sc <;> rfl
theorem mSc_dw (s o t : St) : (mSc s o t).dw = t.dw := by unfold mSc; cases s.sc <;> rfl
theorem mSc_df (s o t : St) : (mSc s o t).df = t.df := by unfold mSc; cases s.sc <;> rfl
theorem mSc_bl (s o t : St) : (mSc s o t).bl = t.bl := by unfold mSc; cases s.sc <;> rfl
theorem mSc_rgb (s o t : St) : (mSc s o t).rgb = t.rgb := by unfold mSc; cases s.sc <;> rfl
theorem mSc_al (s o t : St) : (mSc s o t).al = t.al := by unfold mSc; cases s.sc <;> rfl
theorem mSc_k (s o t : St) : (mSc s o t).k = t.k := by unfold mSc; cases s.sc <;> rfl
theorem mSc_m0 (s o t : St) : (mSc s o t).m0 = t.m0 := by unfold mSc; cases s.sc <;> rfl
theorem mSc_m1 (s o t : St) : (mSc s o t).m1 = t.m1 := by unfold mSc; cases s.sc <;> rfl
theorem mSc_m2 (s o t : St) : (mSc s o t).m2 = t.m2 := by unfold mSc; cases s.sc <;> rfl
theorem mSc_m3 (s o t : St) : (mSc s o t).m3 = t.m3 := by unfold mSc; cases s.sc <;> rfl
theorem mSt_sc (s o t : St) : (mSt s o t).sc = t.sc := by unfold mSt; cases s.st <;> rfl
theorem mSt_x (s o t : St) : (mSt s o t).x = t.x := by unfold mSt; cases s.st <;> rfl
theorem mSt_y (s o t : St) : (mSt s o t).y = t.y := by unfold mSt; cases s.st <;> rfl
theorem mSt_w (s o t : St) : (mSt s o t).w = t.w := by unfold mSt; cases s.st <;> rfl
theorem mSt_h (s o t : St) : (mSt s o t).h = t.h := by unfold mSt; cases s.st <;> rfl
theorem mSt_st (s o t : St) : (mSt s o t).st = t.st := by unfold mSt; cases s.st <;> rfl
theorem mSt_f (s o t : St) : (mSt s o t).f = (if s.st then t.f else o.f) := by unfold mSt; cases s.st <;> rfl
theorem mSt_b (s o t : St) : (mSt s o t).b = (if s.st then t.b else o.b) := by unfold mSt; cases s.st <;> rfl
theorem mSt_dt (s o t : St) : (mSt s o t).dt = t.dt := by unfold mSt; cases s.st <;> rfl
theorem mSt_dw (s o t : St) : (mSt s o t).dw = t.dw := by unfold mSt; cases s.st <;> rfl
theorem mSt_df (s o t : St) : (mSt s o t).df = t.df := by unfold mSt; cases s.st <;> rfl
theorem mSt_bl (s o t : St) : (mSt s o t).bl = t.bl := by unfold mSt; cases s.st <;> rfl
theorem mSt_rgb (s o t : St) : (mSt s o t).rgb = t.rgb := by unfold mSt; cases s.st <;> rfl
theorem mSt_al (s o t : St) : (mSt s o t).al = t.al := by unfold mSt; cases s.st <;> rfl
theorem mSt_k (s o t : St) : (mSt s o t).k = t.k := by unfold mSt; cases s.st <;> rfl
theorem mSt_m0 (s o t : St) : (mSt s o t).m0 = t.m0 := by unfold mSt; cases s.st <;> rfl
theorem mSt_m1 (s o t : St) : (mSt s o t).m1 = t.m1 := by unfold mSt; cases s.st <;> rfl
theorem mSt_m2 (s o t : St) : (mSt s o t).m2 = t.m2 := by unfold mSt; cases s.st <;> rfl
theorem mSt_m3 (s o t : St) : (mSt s o t).m3 = t.m3 := by unfold mSt; cases s.st <;> rfl
theorem mDt_sc (s o t : St) : (mDt s o t).sc = t.sc := by unfold mDt; cases s.dt <;> rfl
theorem mDt_x (s o t : St) : (mDt s o t).x = t.x := by unfold mDt; cases s.dt <;> rfl
theorem mDt_y (s o t : St) : (mDt s o t).y = t.y := by unfold mDt; cases s.dt <;> rfl
theorem mDt_w (s o t : St) : (mDt s o t).w = t.w := by unfold mDt; cases s.dt <;> rfl
theorem mDt_h (s o t : St) : (mDt s o t).h = t.h := by unfold mDt; cases s.dt <;> rfl
theorem mDt_st (s o t : St) : (mDt s o t).st = t.st := by unfold mDt; cases s.dt <;> rfl
theorem mDt_f (s o t : St) : (mDt s o t).f = t.f := by unfold mDt; cases s.dt <;> rfl
theorem mDt_b (s o t : St) : (mDt s o t).b = t.b := by unfold mDt; cases s.dt <;> rfl
theorem mDt_dt (s o t : St) : (mDt s o t).dt = t.dt := by unfold mDt; cases s.dt <;> rfl
theorem mDt_dw (s o t : St) : (mDt s o t).dw = (if s.dt then t.dw else o.dw) := by unfold mDt; cases s.dt <;> rfl
theorem mDt_df (s o t : St) : (mDt s o t).df = (if s.dt then t.df else o.df) := by unfold mDt; cases s.dt <;> rfl
theorem mDt_bl (s o t : St) : (mDt s o t).bl = t.bl := by unfold mDt; cases s.dt <;> rfl
theorem mDt_rgb (s o t : St) : (mDt s o t).rgb = t.rgb := by unfold mDt; cases s.dt <;> rfl
theorem mDt_al (s o t : St) : (mDt s o t).al = t.al := by unfold mDt; cases s.dt <;> rfl
theorem mDt_k (s o t : St) : (mDt s o t).k = t.k := by unfold mDt; cases s.dt <;> rfl
theorem mDt_m0 (s o t : St) : (mDt s o t).m0 = t.m0 := by unfold mDt; cases s.dt <;> rfl
theorem mDt_m1 (s o t : St) : (mDt s o t).m1 = t.m1 := by unfold mDt; cases s.dt <;> rfl
theorem mDt_m2 (s o t : St) : (mDt s o t).m2 = t.m2 := by unfold mDt; cases s.dt <;> rfl
theorem mDt_m3 (s o t : St) : (mDt s o t).m3 = t.m3 := by unfold mDt; cases s.dt <;> rfl
theorem mBl_sc (s o t : St) : (mBl s o t).sc = t.sc := by unfold mBl; cases s.bl <;> rfl
theorem mBl_x (s o t : St) : (mBl s o t).x = t.x := by unfold mBl; cases s.bl <;> rfl
theorem mBl_y (s o t : St) : (mBl s o t).y = t.y := by unfold mBl; cases s.bl <;> rfl
theorem mBl_w (s o t : St) : (mBl s o t).w = t.w := by unfold mBl; cases s.bl <;> rfl
theorem mBl_h (s o t : St) : (mBl s o t).h = t.h := by unfold mBl; cases s.bl <;> rfl
theorem mBl_st (s o t : St) : (mBl s o t).st = t.st := by unfold mBl; cases s.bl <;> rfl
theorem mBl_f (s o t : St) : (mBl s o t).f = t.f := by unfold mBl; cases s.bl <;> rfl
theorem mBl_b (s o t : St) : (mBl s o t).b = t.b := by unfold mBl; cases s.bl <;> rfl
theorem mBl_dt (s o t : St) : (mBl s o t).dt = t.dt := by unfold mBl; cases s.bl <;> rfl
theorem mBl_dw (s o t : St) : (mBl s o t).dw = t.dw := by unfold mBl; cases s.bl <;> rfl
theorem mBl_df (s o t : St) : (mBl s o t).df = t.df := by unfold mBl; cases s.bl <;> rfl
theorem mBl_bl (s o t : St) : (mBl s o t).bl = t.bl := by unfold mBl; cases s.bl <;> rfl
theorem mBl_rgb (s o t : St) : (mBl s o t).rgb = (if s.bl then t.rgb else o.rgb) := by unfold mBl; cases s.bl <;> rfl
theorem mBl_al (s o t : St) : (mBl s o t).al = (if s.bl then t.al else o.al) := by unfold mBl; cases s.bl <;> rfl
theorem mBl_k (s o t : St) : (mBl s o t).k = (if s.bl then t.k else o.k) := by unfold mBl; cases s.bl <;> rfl
theorem mBl_m0 (s o t : St) : (mBl s o t).m0 = t.m0 := by unfold mBl; cases s.bl <;> rfl
theorem mBl_m1 (s o t : St) : (mBl s o t).m1 = t.m1 := by unfold mBl; cases s.bl <;> rfl
theorem mBl_m2 (s o t : St) : (mBl s o t).m2 = t.m2 := by unfold mBl; cases s.bl <;> rfl
theorem mBl_m3 (s o t : St) : (mBl s o t).m3 = t.m3 := by unfold mBl; cases s.bl <;> rfl
theorem mAll_sc (s o : St) : (mAll s o).sc = s.sc := by unfold mAll; rw [mBl_sc, mDt_sc, mSt_sc, mSc_sc]
theorem mAll_x (s o : St) : (mAll s o).x = (if s.sc then s.x else o.x) := by unfold mAll; simp only [mBl_x, mDt_x, mSt_x, mSc_x]
theorem mAll_y (s o : St) : (mAll s o).y = (if s.sc then s.y else o.y) := by unfold mAll; simp only [mBl_y, mDt_y, mSt_y, mSc_y]
theorem mAll_w (s o : St) : (mAll s o).w = (if s.sc then s.w else o.w) := by unfold mAll; simp only [mBl_w, mDt_w, mSt_w, mSc_w]
theorem mAll_h (s o : St) : (mAll s o).h = (if s.sc then s.h else o.h) := by unfold mAll; simp only [mBl_h, mDt_h, mSt_h, mSc_h]
theorem mAll_st (s o : St) : (mAll s o).st = s.st := by unfold mAll; rw [mBl_st, mDt_st, mSt_st, mSc_st]
theorem mAll_f (s o : St) : (mAll s o).f = (if s.st then s.f else o.f) := by unfold mAll; simp only [mBl_f, mDt_f, mSt_f, mSc_f]
theorem mAll_b (s o : St) : (mAll s o).b = (if s.st then s.b else o.b) := by unfold mAll; simp only [mBl_b, mDt_b, mSt_b, mSc_b]
theorem mAll_dt (s o : St) : (mAll s o).dt = s.dt := by unfold mAll; rw [mBl_dt, mDt_dt, mSt_dt, mSc_dt]
theorem mAll_dw (s o : St) : (mAll s o).dw = (if s.dt then s.dw else o.dw) := by unfold mAll; simp only [mBl_dw, mDt_dw, mSt_dw, mSc_dw]
theorem mAll_df (s o : St) : (mAll s o).df = (if s.dt then s.df else o.df) := by unfold mAll; simp only [mBl_df, mDt_df, mSt_df, mSc_df]
theorem mAll_bl (s o : St) : (mAll s o).bl = s.bl := by unfold mAll; rw [mBl_bl, mDt_bl, mSt_bl, mSc_bl]
theorem mAll_rgb (s o : St) : (mAll s o).rgb = (if s.bl then s.rgb else o.rgb) := by unfold mAll; simp only [mBl_rgb, mDt_rgb, mSt_rgb, mSc_rgb]
theorem mAll_al (s o : St) : (mAll s o).al = (if s.bl then s.al else o.al) := by unfold mAll; simp only [mBl_al, mDt_al, mSt_al, mSc_al]
theorem mAll_k (s o : St) : (mAll s o).k = (if s.bl then s.k else o.k) := by unfold mAll; simp only [mBl_k, mDt_k, mSt_k, mSc_k]
theorem mAll_m0 (s o : St) : (mAll s o).m0 = s.m0 := by unfold mAll; rw [mBl_m0, mDt_m0, mSt_m0, mSc_m0]
theorem mAll_m1 (s o : St) : (mAll s o).m1 = s.m1 := by unfold mAll; rw [mBl_m1, mDt_m1, mSt_m1, mSc_m1]
theorem mAll_m2 (s o : St) : (mAll s o).m2 = s.m2 := by unfold mAll; rw [mBl_m2, mDt_m2, mSt_m2, mSc_m2]
theorem mAll_m3 (s o : St) : (mAll s o).m3 = s.m3 := by unfold mAll; rw [mBl_m3, mDt_m3, mSt_m3, mSc_m3]
theorem ite_ok {b : Bool} {α : Type} {x y : α} {P : α → Prop} (h1 : P x) (h2 : P y) : P (if b then x else y) := by cases b <;> assumption
theorem mAll_ok {s o : St} (hs : stOk s = true) (ho : stOk o = true) : stOk (mAll s o) = true := by
  rw [stOk_eq] at *
  simp only [List.all_cons, List.all_nil, Bool.and_true, Bool.and_eq_true, mAll_rgb, mAll_al, mAll_w, mAll_h, mAll_f, mAll_b, mAll_df, mAll_k] at *
  obtain ⟨⟨a1, a2⟩, ⟨⟨⟨⟨⟨⟨a3, a4⟩, a5⟩, a6⟩, a7⟩, a8⟩, a9⟩⟩ := hs
  obtain ⟨⟨b1, b2⟩, ⟨⟨⟨⟨⟨⟨b3, b4⟩, b5⟩, b6⟩, b7⟩, b8⟩, b9⟩⟩ := ho
  exact ⟨⟨ite_ok (P := fun x => blOk x = true) a1 b1, ite_ok (P := fun x => blOk x = true) a2 b2⟩, ⟨⟨⟨⟨⟨⟨ite_ok (P := fun x => decide (0 ≤ x) = true) a3 b3, ite_ok (P := fun x => decide (0 ≤ x) = true) a4 b4⟩, ite_ok (P := fun x => stenOk x = true) a5 b5⟩, ite_ok (P := fun x => stenOk x = true) a6 b6⟩, ite_ok (P := fun x => decide (1 ≤ x) = true) a7 b7⟩, ite_ok (P := fun x => decide (x ≤ 8) = true) a8 b8⟩, ite_ok (P := fun x => (!(V4.L x).any outV) = true) a9 b9⟩⟩
theorem mAll_mixV (s o : St) (a b : V4) : mixV (mAll s o) a b = mixV s a b := by
  unfold mixV mixCh blendOf
  rw [mAll_bl, mAll_rgb, mAll_al, mAll_k]
  cases s.bl <;> rfl
theorem mAll_pick (s o : St) (a b : V4) : pickV (mAll s o) a b = pickV s a b := by
  unfold pickV
  rw [mAll_m0, mAll_m1, mAll_m2, mAll_m3]
theorem mAll_laid (s o : St) (f : Fr) (c : Ce) : laidV (mAll s o) f c = laidV s f c := by
  unfold laidV
  rw [mAll_dt, mAll_dw]
  cases s.dt <;> rfl
theorem mAll_box (s o : St) (f : Fr) : ((mAll s o).sc && !boxV (mAll s o) f) = (s.sc && !boxV s f) := by
  unfold boxV
  rw [mAll_sc, mAll_x, mAll_y, mAll_w, mAll_h]
  cases s.sc <;> rfl
theorem mAll_side (s o : St) (f : Fr) : sideV (mAll s o) f = if s.st then sideV s f else sideV o f := by
  unfold sideV
  rw [mAll_f, mAll_b]
  cases s.st <;> rfl
theorem mAll_turned (s o : St) (f : Fr) (g : Sten → Int) (c : Ce) : turned (mAll s o).st (g (sideV (mAll s o) f)) (sideV (mAll s o) f) c = turned s.st (g (sideV s f)) (sideV s f) c := by
  rw [mAll_st, mAll_side]
  unfold turned
  cases s.st <;> rfl
theorem mAll_test (s o : St) (f : Fr) (c : Ce) : ((mAll s o).st && !testV (sideV (mAll s o) f) c) = (s.st && !testV (sideV s f) c) := by
  rw [mAll_st, mAll_side]
  cases s.st
  · rw [Bool.false_and, Bool.false_and]
  · rw [if_pos rfl]
theorem mAll_cmp (s o : St) (z d : Int) : ((mAll s o).dt && !cmpV (mAll s o).df z d) = (s.dt && !cmpV s.df z d) := by
  rw [mAll_dt, mAll_df]
  cases s.dt
  · rw [Bool.false_and, Bool.false_and]
  · rw [if_pos rfl]
theorem mAll_pass (s o : St) (f : Fr) (col : V4) (c : Ce) : passV (mAll s o) f col c = passV s f col c := by
  unfold passV
  simp only []
  rw [mAll_turned s o f Sten.zp, mAll_laid, mAll_mixV, mAll_pick]
theorem mAll_apply (s o : St) (f : Fr) (col : V4) (c : Ce) : applyV (mAll s o) f col c = applyV s f col c := by
  unfold applyV
  rw [mAll_box, mAll_test, mAll_cmp, mAll_turned s o f Sten.fl, mAll_turned s o f Sten.zf, mAll_pass]
theorem mAll_applyR {s o : St} (hs : stOk s = true) (ho : stOk o = true) (f : Fr) (col : V4) (c : Ce) : applyR (mAll s o) f col c = applyR s f col c := by
  cases hc : ceOk c
  · rw [applyR_arg hs hc, applyR_arg (mAll_ok hs ho) hc]
  · rw [applyR_ok hs hc, applyR_ok (mAll_ok hs ho) hc, mAll_apply]

theorem st_mid {w : World} {b : Nat} (T : TypeId) {T0 : TypeId} {L : List Value} (h : w.heap[b]? = some (.cells L.toArray T0 (0, 0))) (off : Nat) (vs L' : List Value) (hl : off + vs.length ≤ L.length) (hi : (Try.prog.info? T).map (·.size) = some vs.length) (h1 : vs.toArray.all (·.oneCell') = true) (hL : L.take off ++ vs ++ L.drop (off + vs.length) = L') :
    ∃ w', (@Classical.epsilon _ neU (StP T (.pointer (some ⟨b, off, none⟩)) (.agg vs.toArray))).run Try.prog w = .ok () w' ∧ w'.heap[b]? = some (.cells L'.toArray T0 (0, 0)) ∧ Chg [b] w w' := by
  refine ⟨w.setCells b off vs, ?_, ?_, chg_setCells (by simp) _ _ _ (Chg.refl _ _)⟩
  · rw [← St_fold]
    have := run_storeAt_mid (P := Try.prog) w b off T vs.toArray (fun j hj => ⟨by
      have hj' : j < vs.length := by simpa using hj
      rw [cell_of_heap h (v := L[off + j]) (by simp [show off + j < L.length by omega])]
      rfl, free_of_heap h⟩) (by simpa using hi) h1
    simpa using this
  · rw [← hL]
    exact heap_setCells vs off w L h hl
theorem St_Bl (v u : Value) : Instr.storeAt 27 v u = @Classical.epsilon _ neU (StP 27 v u) := St_fold _ _ _
theorem St_Pi (v u : Value) : Instr.storeAt 23 v u = @Classical.epsilon _ neU (StP 23 v u) := St_fold _ _ _
theorem Ld_Pi (v : Value) : Instr.loadAt 23 v = @Classical.epsilon _ neV (LdP 23 v) := Ld_fold _ _
def St.box (s : St) : List Value := [.int .i64 s.x, .int .i64 s.y, .int .i64 s.w, .int .i64 s.h]
theorem StAt.loadX {w : World} {b : Nat} {s : St} (h : StAt w b s) : (@Classical.epsilon _ neV (LdP 23 (.pointer (some ⟨b, 1, none⟩)))).run Try.prog w = .ok (.agg s.box.toArray) w :=
  ld_ok _ (range_cells h (fun j v hv => by
    have hj : j < 4 := by have := (List.getElem?_eq_some_iff.1 hv).1; exact this
    have : j = 0 ∨ j = 1 ∨ j = 2 ∨ j = 3 := by omega
    rcases this with rfl | rfl | rfl | rfl <;> exact hv)) Try.underlying23 rfl rfl
theorem StAt.midX {w : World} {b : Nat} {t : St} (h : StAt w b t) (o : St) : ∃ w', (@Classical.epsilon _ neU (StP 23 (.pointer (some ⟨b, 1, none⟩)) (.agg o.box.toArray))).run Try.prog w = .ok () w' ∧ StAt w' b { t with x := o.x, y := o.y, w := o.w, h := o.h } ∧ Chg [b] w w' :=
  st_mid _ h 1 o.box _ (by show 1 + 4 ≤ 38; decide) rfl (by simp [St.box, Value.oneCell']) rfl
theorem StAt.midF {w : World} {b : Nat} {t : St} (h : StAt w b t) (u : Sten) : ∃ w', (@Classical.epsilon _ neU (StP 25 (.pointer (some ⟨b, 6, none⟩)) (.agg u.C.toArray))).run Try.prog w = .ok () w' ∧ StAt w' b { t with f := u } ∧ Chg [b] w w' :=
  st_mid _ h 6 u.C _ (by show 6 + 7 ≤ 38; decide) rfl (by simp [Sten.C, Value.oneCell']) rfl
theorem StAt.midB {w : World} {b : Nat} {t : St} (h : StAt w b t) (u : Sten) : ∃ w', (@Classical.epsilon _ neU (StP 25 (.pointer (some ⟨b, 13, none⟩)) (.agg u.C.toArray))).run Try.prog w = .ok () w' ∧ StAt w' b { t with b := u } ∧ Chg [b] w w' :=
  st_mid _ h 13 u.C _ (by show 13 + 7 ≤ 38; decide) rfl (by simp [Sten.C, Value.oneCell']) rfl
theorem StAt.midR {w : World} {b : Nat} {t : St} (h : StAt w b t) (u : Bl) : ∃ w', (@Classical.epsilon _ neU (StP 27 (.pointer (some ⟨b, 24, none⟩)) (.agg u.C.toArray))).run Try.prog w = .ok () w' ∧ StAt w' b { t with rgb := u } ∧ Chg [b] w w' :=
  st_mid _ h 24 u.C _ (by show 24 + 3 ≤ 38; decide) rfl (by simp [Bl.C, Value.oneCell']) rfl
theorem StAt.midA {w : World} {b : Nat} {t : St} (h : StAt w b t) (u : Bl) : ∃ w', (@Classical.epsilon _ neU (StP 27 (.pointer (some ⟨b, 27, none⟩)) (.agg u.C.toArray))).run Try.prog w = .ok () w' ∧ StAt w' b { t with al := u } ∧ Chg [b] w w' :=
  st_mid _ h 27 u.C _ (by show 27 + 3 ≤ 38; decide) rfl (by simp [Bl.C, Value.oneCell']) rfl
theorem StAt.midK {w : World} {b : Nat} {t : St} (h : StAt w b t) (u : V4) : ∃ w', (@Classical.epsilon _ neU (StP 30 (.pointer (some ⟨b, 30, none⟩)) (.agg u.C.toArray))).run Try.prog w = .ok () w' ∧ StAt w' b { t with k := u } ∧ Chg [b] w w' :=
  st_mid _ h 30 u.C _ (by show 30 + 4 ≤ 38; decide) rfl (by simp [V4.C, Value.oneCell']) rfl
theorem StAt.set21 {w : World} {b : Nat} {t : St} (h : StAt w b t) (x : Bool) : StAt (w.setCell ⟨b, 21, none⟩ (.bool x)) b { t with dw := x } := heap_set (k := 21) (u := .bool x) h
theorem StAt.set22 {w : World} {b : Nat} {t : St} (h : StAt w b t) (x : Int) : StAt (w.setCell ⟨b, 22, none⟩ (.int .i64 x)) b { t with df := x } := heap_set (k := 22) (u := .int .i64 x) h
end Go.Proofs.Ytagjjgookiodbaa
