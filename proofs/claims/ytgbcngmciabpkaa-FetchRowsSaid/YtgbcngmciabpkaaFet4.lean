/- Contracts: readers of the kinds, Check, the document's Right and read. Conditions: each theorem's own premises. -/
import Derived.Test.YtgbcngmciabpkaaFet3
import Derived.OpenShut
import Derived.Test.YtgbcngmciabpkaaOpen
namespace Go.Proofs.Ytgbcngmciabpkaa
open Go.RowKit Go.ChangeShapes
set_option linter.unusedVariables false

/-- The number of a kind that bytes hold. -/
def rdV (k : Int) (l : List Int) : Int :=
  if k = 1 then IntKind.i8.wrap (leN l) else if k = 2 then IntKind.u8.wrap (leN l) else if k = 3 then IntKind.i16.wrap (leN l) else if k = 4 then IntKind.u16.wrap (leN l) else IntKind.i32.wrap (leN l)
theorem rd1 (p : Nat) (bs : List Int) (at_ : Nat) (er : Int) (w : World) (hr : RdAt w p bs at_ er) (hb : bs.length ≤ 140737488355328) :
    Calls Try.prog 36 #[.pointer (some ⟨p, 0, none⟩)] w fun e w' => e = .returned (.int .i64 (rdV 1 (takeR bs at_ er 1).1)) ∧ RdAt w' p bs (takeR bs at_ er 1).2.1 (takeR bs at_ er 1).2.2 ∧ Chg [p] w w' := by
  obtain ⟨v, hv⟩ : ∃ v, IntKind.i8.wrap (leN (takeR bs at_ er 1).1) = v := ⟨_, rfl⟩
  have HV := Lib.hid hv
  have hbd := bounds_i8 (wf_wrap .i8 (leN (takeR bs at_ er 1).1))
  rw [hv] at hbd
  have h1 := hbd.1
  have h2 := hbd.2
  clear hv hbd
  go_enter Try.func36, Try.ntmps36
  go_wp2_with (go_at_call 37; refine (i8_any p bs at_ er _ hr hb).mono ?_; rw [HV.out]; rintro e w1 ⟨rfl, hr1, hc1⟩)
  go_ret
  exact ⟨ret_int (by show v = IntKind.i8.wrap _; exact HV.out.symm), hr1, hc1⟩
theorem rd2 (p : Nat) (bs : List Int) (at_ : Nat) (er : Int) (w : World) (hr : RdAt w p bs at_ er) (hb : bs.length ≤ 140737488355328) :
    Calls Try.prog 38 #[.pointer (some ⟨p, 0, none⟩)] w fun e w' => e = .returned (.int .i64 (rdV 2 (takeR bs at_ er 1).1)) ∧ RdAt w' p bs (takeR bs at_ er 1).2.1 (takeR bs at_ er 1).2.2 ∧ Chg [p] w w' := by
  obtain ⟨v, hv⟩ : ∃ v, IntKind.u8.wrap (leN (takeR bs at_ er 1).1) = v := ⟨_, rfl⟩
  have HV := Lib.hid hv
  have hbd := bounds_u8 (wf_wrap .u8 (leN (takeR bs at_ er 1).1))
  rw [hv] at hbd
  have h1 := hbd.1
  have h2 := hbd.2
  clear hv hbd
  go_enter Try.func38, Try.ntmps38
  go_wp2_with (go_at_call 39; refine (u8_any p bs at_ er _ hr hb).mono ?_; rw [HV.out]; rintro e w1 ⟨rfl, hr1, hc1⟩)
  go_ret
  exact ⟨ret_int (by show v = IntKind.u8.wrap _; exact HV.out.symm), hr1, hc1⟩
theorem rd3 (p : Nat) (bs : List Int) (at_ : Nat) (er : Int) (w : World) (hr : RdAt w p bs at_ er) (hb : bs.length ≤ 140737488355328) :
    Calls Try.prog 40 #[.pointer (some ⟨p, 0, none⟩)] w fun e w' => e = .returned (.int .i64 (rdV 3 (takeR bs at_ er 2).1)) ∧ RdAt w' p bs (takeR bs at_ er 2).2.1 (takeR bs at_ er 2).2.2 ∧ Chg [p] w w' := by
  obtain ⟨v, hv⟩ : ∃ v, IntKind.i16.wrap (leN (takeR bs at_ er 2).1) = v := ⟨_, rfl⟩
  have HV := Lib.hid hv
  have hbd := bounds_i16 (wf_wrap .i16 (leN (takeR bs at_ er 2).1))
  rw [hv] at hbd
  have h1 := hbd.1
  have h2 := hbd.2
  clear hv hbd
  go_enter Try.func40, Try.ntmps40
  go_wp2_with (go_at_call 41; refine (i16_any p bs at_ er _ hr hb).mono ?_; rw [HV.out]; rintro e w1 ⟨rfl, hr1, hc1⟩)
  go_ret
  exact ⟨ret_int (by show v = IntKind.i16.wrap _; exact HV.out.symm), hr1, hc1⟩
theorem rd4 (p : Nat) (bs : List Int) (at_ : Nat) (er : Int) (w : World) (hr : RdAt w p bs at_ er) (hb : bs.length ≤ 140737488355328) :
    Calls Try.prog 42 #[.pointer (some ⟨p, 0, none⟩)] w fun e w' => e = .returned (.int .i64 (rdV 4 (takeR bs at_ er 2).1)) ∧ RdAt w' p bs (takeR bs at_ er 2).2.1 (takeR bs at_ er 2).2.2 ∧ Chg [p] w w' := by
  obtain ⟨v, hv⟩ : ∃ v, IntKind.u16.wrap (leN (takeR bs at_ er 2).1) = v := ⟨_, rfl⟩
  have HV := Lib.hid hv
  have hbd := bounds_u16 (wf_wrap .u16 (leN (takeR bs at_ er 2).1))
  rw [hv] at hbd
  have h1 := hbd.1
  have h2 := hbd.2
  clear hv hbd
  go_enter Try.func42, Try.ntmps42
  go_wp2_with (go_at_call 43; refine (u16_any p bs at_ er _ hr hb).mono ?_; rw [HV.out]; rintro e w1 ⟨rfl, hr1, hc1⟩)
  go_ret
  exact ⟨ret_int (by show v = IntKind.u16.wrap _; exact HV.out.symm), hr1, hc1⟩
theorem rd5 (p : Nat) (bs : List Int) (at_ : Nat) (er : Int) (w : World) (hr : RdAt w p bs at_ er) (hb : bs.length ≤ 140737488355328) :
    Calls Try.prog 44 #[.pointer (some ⟨p, 0, none⟩)] w fun e w' => e = .returned (.int .i64 (rdV 5 (takeR bs at_ er 4).1)) ∧ RdAt w' p bs (takeR bs at_ er 4).2.1 (takeR bs at_ er 4).2.2 ∧ Chg [p] w w' := by
  obtain ⟨v, hv⟩ : ∃ v, IntKind.i32.wrap (leN (takeR bs at_ er 4).1) = v := ⟨_, rfl⟩
  have HV := Lib.hid hv
  have hbd := bounds_i32 (wf_wrap .i32 (leN (takeR bs at_ er 4).1))
  rw [hv] at hbd
  have h1 := hbd.1
  have h2 := hbd.2
  clear hv hbd
  go_enter Try.func44, Try.ntmps44
  go_wp2_with (go_at_call 45; refine (i32_any p bs at_ er _ hr hb).mono ?_; rw [HV.out]; rintro e w1 ⟨rfl, hr1, hc1⟩)
  go_ret
  exact ⟨ret_int (by show v = IntKind.i32.wrap _; exact HV.out.symm), hr1, hc1⟩
/-- Arrays. -/
structure Arr where
  sz : Int
  kd : Int
  nm : Bool
  st : Int
  of : Int
def Arr.C (a : Arr) : List Value := [.int .i64 a.sz, .int .i64 a.kd, .bool a.nm, .int .i64 a.st, .int .i64 a.of]
def arrOk (a : Arr) : Bool := (decide (1 ≤ a.sz) && decide (a.sz ≤ 4)) && decide (0 < wdR a.kd) && (decide (0 ≤ a.st) && decide (a.st ≤ 255)) && (decide (0 ≤ a.of) && decide (a.of ≤ 262144))
def AAt (w : World) (b : Nat) (a : Arr) : Prop := w.heap[b]? = some (.cells a.C.toArray 24 (0, 0))
theorem AAt.ext {w w' : World} {b : Nat} {a : Arr} (h : AAt w b a) (x : Ext w w') : AAt w' b a := x.heap h
theorem AAt.chg {M : List Nat} {w w' : World} {b : Nat} {a : Arr} (h : AAt w b a) (x : Chg M w w') (hm : b ∉ M) : AAt w' b a := x.heap h hm
theorem check_any (a : Arr) (w : World) : Calls Try.prog 24 #[.agg a.C.toArray] w fun e w' => e = .returned (.int .i64 (if arrOk a then 0 else 2)) ∧ Ext w w' := by
  obtain ⟨w2, hw2, ha, hx⟩ : ∃ w2, w.alloc (.cells a.C.toArray 24) = w2 ∧ AAt w2 w.heap.size a ∧ Ext w w2 := ⟨_, rfl, heap_alloc_new _ _, (Ext.refl _).alloc _⟩
  have HW := Lib.hid hw2
  clear hw2
  obtain ⟨b1, hb1⟩ : ∃ b, (decide (1 ≤ a.sz) && decide (a.sz ≤ 4)) = b := ⟨_, rfl⟩
  obtain ⟨b2, hb2⟩ : ∃ b, decide (0 < wdR a.kd) = b := ⟨_, rfl⟩
  obtain ⟨b3, hb3⟩ : ∃ b, (decide (0 ≤ a.st) && decide (a.st ≤ 255)) = b := ⟨_, rfl⟩
  obtain ⟨b4, hb4⟩ : ∃ b, (decide (0 ≤ a.of) && decide (a.of ≤ 262144)) = b := ⟨_, rfl⟩
  have HO := Lib.hid (show arrOk a = (b1 && b2 && b3 && b4) by show ((_ && _) && _ && (_ && _) && (_ && _)) = _; rw [hb1, hb2, hb3, hb4])
  obtain ⟨r, hr⟩ : ∃ r : Int, (if arrOk a then 0 else 2) = r := ⟨_, rfl⟩
  rw [hr]
  have HR := Lib.hid hr
  clear hr
  have HB1 := Lib.hid hb1
  have HB3 := Lib.hid hb3
  have HB4 := Lib.hid hb4
  have hq : (wdR a.kd == 0) = !b2 := by
    rw [← hb2]
    rcases wd_pos a.kd with h | h
    · rw [h]; rfl
    · rw [decide_eq_true h]; simp; omega
  clear hb1 hb2 hb3 hb4
  have HX := Lib.hid hx
  go_enter Try.func24, Try.ntmps24
  go_upto_region 1 with fail
  rw [HW.out]
  generalize w.heap.size = b0 at *
  have c0 : w2.cell? ⟨b0, 0, none⟩ = some (.int .i64 a.sz) := cell_of_heap ha rfl
  have c1 : w2.cell? ⟨b0, 1, none⟩ = some (.int .i64 a.kd) := cell_of_heap ha rfl
  have HA := Lib.hid ha
  have n0 := heap_lt ha
  clear ha hx
  cases b1
  · go_wp2_with (first | (go_at_call 26; refine (between_any _ _ _ _).mono ?_; rw [HB1.out]; rintro _ _ ⟨rfl, rfl⟩) | (go_at_call 26; refine (between_any _ _ _ _).mono ?_; rw [HB3.out]; rintro _ _ ⟨rfl, rfl⟩) | (go_at_call 26; refine (between_any _ _ _ _).mono ?_; rw [HB4.out]; rintro _ _ ⟨rfl, rfl⟩) | (go_at_call 17; refine (width_any _ _).mono ?_; rintro _ w3 ⟨rfl, hx3⟩; have c3 : w3.cell? ⟨b0, 3, none⟩ = some (.int .i64 a.st) := cell_of_heap (hx3.heap HA.out) rfl; have c4 : w3.cell? ⟨b0, 4, none⟩ = some (.int .i64 a.of) := cell_of_heap (hx3.heap HA.out) rfl; have n3 := heap_lt (hx3.heap HA.out); have HX3 := Lib.hid (HX.out.trans hx3); clear hx3))
    all_goals go_ret
    all_goals exact ⟨ret_int (by rw [← HR.out, HO.out]; rfl), HX.out⟩
  cases b2
  · go_wp2_with (first | (go_at_call 26; refine (between_any _ _ _ _).mono ?_; rw [HB1.out]; rintro _ _ ⟨rfl, rfl⟩) | (go_at_call 26; refine (between_any _ _ _ _).mono ?_; rw [HB3.out]; rintro _ _ ⟨rfl, rfl⟩) | (go_at_call 26; refine (between_any _ _ _ _).mono ?_; rw [HB4.out]; rintro _ _ ⟨rfl, rfl⟩) | (go_at_call 17; refine (width_any _ _).mono ?_; rintro _ w3 ⟨rfl, hx3⟩; have c3 : w3.cell? ⟨b0, 3, none⟩ = some (.int .i64 a.st) := cell_of_heap (hx3.heap HA.out) rfl; have c4 : w3.cell? ⟨b0, 4, none⟩ = some (.int .i64 a.of) := cell_of_heap (hx3.heap HA.out) rfl; have n3 := heap_lt (hx3.heap HA.out); have HX3 := Lib.hid (HX.out.trans hx3); clear hx3))
    all_goals go_ret
    all_goals exact ⟨ret_int (by rw [← HR.out, HO.out]; rfl), HX3.out⟩
  cases b3
  · go_wp2_with (first | (go_at_call 26; refine (between_any _ _ _ _).mono ?_; rw [HB1.out]; rintro _ _ ⟨rfl, rfl⟩) | (go_at_call 26; refine (between_any _ _ _ _).mono ?_; rw [HB3.out]; rintro _ _ ⟨rfl, rfl⟩) | (go_at_call 26; refine (between_any _ _ _ _).mono ?_; rw [HB4.out]; rintro _ _ ⟨rfl, rfl⟩) | (go_at_call 17; refine (width_any _ _).mono ?_; rintro _ w3 ⟨rfl, hx3⟩; have c3 : w3.cell? ⟨b0, 3, none⟩ = some (.int .i64 a.st) := cell_of_heap (hx3.heap HA.out) rfl; have c4 : w3.cell? ⟨b0, 4, none⟩ = some (.int .i64 a.of) := cell_of_heap (hx3.heap HA.out) rfl; have n3 := heap_lt (hx3.heap HA.out); have HX3 := Lib.hid (HX.out.trans hx3); clear hx3))
    all_goals go_ret
    all_goals exact ⟨ret_int (by rw [← HR.out, HO.out]; rfl), HX3.out⟩
  cases b4
  · go_wp2_with (first | (go_at_call 26; refine (between_any _ _ _ _).mono ?_; rw [HB1.out]; rintro _ _ ⟨rfl, rfl⟩) | (go_at_call 26; refine (between_any _ _ _ _).mono ?_; rw [HB3.out]; rintro _ _ ⟨rfl, rfl⟩) | (go_at_call 26; refine (between_any _ _ _ _).mono ?_; rw [HB4.out]; rintro _ _ ⟨rfl, rfl⟩) | (go_at_call 17; refine (width_any _ _).mono ?_; rintro _ w3 ⟨rfl, hx3⟩; have c3 : w3.cell? ⟨b0, 3, none⟩ = some (.int .i64 a.st) := cell_of_heap (hx3.heap HA.out) rfl; have c4 : w3.cell? ⟨b0, 4, none⟩ = some (.int .i64 a.of) := cell_of_heap (hx3.heap HA.out) rfl; have n3 := heap_lt (hx3.heap HA.out); have HX3 := Lib.hid (HX.out.trans hx3); clear hx3))
    all_goals go_ret
    all_goals exact ⟨ret_int (by rw [← HR.out, HO.out]; rfl), HX3.out⟩
  · go_wp2_with (first | (go_at_call 26; refine (between_any _ _ _ _).mono ?_; rw [HB1.out]; rintro _ _ ⟨rfl, rfl⟩) | (go_at_call 26; refine (between_any _ _ _ _).mono ?_; rw [HB3.out]; rintro _ _ ⟨rfl, rfl⟩) | (go_at_call 26; refine (between_any _ _ _ _).mono ?_; rw [HB4.out]; rintro _ _ ⟨rfl, rfl⟩) | (go_at_call 17; refine (width_any _ _).mono ?_; rintro _ w3 ⟨rfl, hx3⟩; have c3 : w3.cell? ⟨b0, 3, none⟩ = some (.int .i64 a.st) := cell_of_heap (hx3.heap HA.out) rfl; have c4 : w3.cell? ⟨b0, 4, none⟩ = some (.int .i64 a.of) := cell_of_heap (hx3.heap HA.out) rfl; have n3 := heap_lt (hx3.heap HA.out); have HX3 := Lib.hid (HX.out.trans hx3); clear hx3))
    all_goals go_ret
    all_goals exact ⟨ret_int (by rw [← HR.out, HO.out]; rfl), HX3.out⟩
end Go.Proofs.Ytgbcngmciabpkaa
