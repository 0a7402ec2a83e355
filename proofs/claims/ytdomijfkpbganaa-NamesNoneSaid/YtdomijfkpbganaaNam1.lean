/- Contracts of names' functions: New, name, Bound, Is, Used, Bind, Delete, Left. Conditions: each theorem's own premises. -/
import Derived.Test.YtdomijfkpbganaaRows
import Derived.Test.YtdomijfkpbganaaKit
import Derived.BigQuiet
import Derived.Deep.QuietTactic
import Derived.Lib.Hide
namespace Go.Proofs.Ytdomijfkpbganaa
open Go.RowKit
set_option linter.unusedVariables false

/-- The cells of names. -/
def nmCells (st : List Int) (bd : Int) : Array Value := (st.map (Value.int .u8) ++ [Value.int .i64 bd]).toArray
/-- Block p are names in a state, one of them bound. -/
def NmAt (w : World) (p : Nat) (st : List Int) (bd : Int) : Prop := w.heap[p]? = some (.cells (nmCells st bd) 53 (0, 0)) ∧ st.length = 65

theorem NmAt.lt {w : World} {p : Nat} {st : List Int} {bd : Int} (h : NmAt w p st bd) : p < w.heap.size := heap_lt h.1
theorem NmAt.ext {w w' : World} {p : Nat} {st : List Int} {bd : Int} (h : NmAt w p st bd) (x : Ext w w') : NmAt w' p st bd := ⟨x.heap h.1, h.2⟩
theorem NmAt.chg {M : List Nat} {w w' : World} {p : Nat} {st : List Int} {bd : Int} (h : NmAt w p st bd) (x : Chg M w w') (hp : p ∉ M) : NmAt w' p st bd := ⟨x.heap h.1 hp, h.2⟩
theorem NmAt.cell {w : World} {p : Nat} {st : List Int} {bd : Int} (h : NmAt w p st bd) (i : Nat) (hi : i < 65) : w.cell? ⟨p, i, none⟩ = some (.int .u8 (st.getD i 0)) := by
  refine cell_of_heap h.1 ?_
  have := h.2
  unfold nmCells
  rw [List.getElem?_toArray, List.getElem?_append_left (by simp; omega), List.getElem?_map, List.getElem?_eq_getElem (by omega), List.getD_eq_getElem?_getD, List.getElem?_eq_getElem (by omega)]
  rfl
theorem NmAt.bound {w : World} {p : Nat} {st : List Int} {bd : Int} (h : NmAt w p st bd) : w.cell? ⟨p, 65, none⟩ = some (.int .i64 bd) := by
  refine cell_of_heap h.1 ?_
  have := h.2
  unfold nmCells
  rw [List.getElem?_toArray, List.getElem?_append_right (by simp; omega)]
  simp [this]
theorem NmAt.free {w : World} {p : Nat} {st : List Int} {bd : Int} (h : NmAt w p st bd) (i : Nat) : w.frozen? ⟨p, i, none⟩ = false := free_of_heap h.1
theorem NmAt.setState {w : World} {p : Nat} {st : List Int} {bd : Int} (h : NmAt w p st bd) (i : Nat) (hi : i < 65) (x : Int) : NmAt (w.setCell ⟨p, i, none⟩ (.int .u8 x)) p (st.set i x) bd := by
  refine ⟨?_, by simpa using h.2⟩
  rw [heap_set h.1]
  have := h.2
  unfold nmCells
  simp only [List.setIfInBounds_toArray, Option.some.injEq, Obj.cells.injEq, and_true]
  rw [List.set_append_left _ _ (by simp; omega), List.map_set]
theorem NmAt.setBound {w : World} {p : Nat} {st : List Int} {bd : Int} (h : NmAt w p st bd) (x : Int) : NmAt (w.setCell ⟨p, 65, none⟩ (.int .i64 x)) p st x := by
  refine ⟨?_, h.2⟩
  rw [heap_set h.1]
  have := h.2
  unfold nmCells
  simp only [List.setIfInBounds_toArray, Option.some.injEq, Obj.cells.injEq, and_true]
  rw [List.set_append_right _ _ (by simp; omega)]
  simp [this]

/-- The names that all are free. -/
def nm0 : Array Value := nmCells (List.replicate 65 0) 0
theorem zero_names (w : World) : (zeroValue 53).run Try.prog w = .ok (.agg nm0) w := by kernel_rfl
theorem nm0_size : nm0.size = 66 := by kernel_rfl

set_option maxRecDepth 100000 in
theorem new_any (w : World) : Calls Try.prog 9 #[] w fun e w' => ∃ p, e = .returned (.pointer (some ⟨p, 0, none⟩)) ∧ w.heap.size ≤ p ∧ NmAt w' p (List.replicate 65 0) 0 ∧ Ext w w' := by
  have hz := zero_names
  go_enter Try.func9, Try.ntmps9
  go_wp2
  go_ret
  exact ⟨_, rfl, Nat.le_refl _, ⟨heap_alloc_new _ _, rfl⟩, (Ext.refl _).alloc _⟩

/-- Is it a name? -/
def isName (i : Int) : Bool := decide (1 ≤ i) && decide (i ≤ 64)

theorem name_any (i : Int) (w : World) : Calls Try.prog 23 #[.int .i64 i] w fun e w' => e = .returned (.bool (isName i)) ∧ w = w' := by
  by_cases h1 : 1 ≤ i
  · by_cases h2 : i ≤ 64
    · have hn : Hid (isName i = true) := by simp [Hid, isName, h1, h2]
      go_enter Try.func23, Try.ntmps23
      go_wp2
      go_ret
      exact ⟨by rw [hn.out]; first | rfl | (simp; omega) | simp, rfl⟩
    · have hn : Hid (isName i = false) := by simp [Hid, isName, h1, h2]
      go_enter Try.func23, Try.ntmps23
      go_wp2
      go_ret
      exact ⟨by rw [hn.out]; first | rfl | (simp; omega) | simp, rfl⟩
  · have hn : Hid (isName i = false) := by simp [Hid, isName, h1]
    go_enter Try.func23, Try.ntmps23
    go_wp2
    go_ret
    exact ⟨by rw [hn.out]; first | rfl | (simp; omega) | simp, rfl⟩

theorem bound_any (p : Nat) (st : List Int) (bd : Int) (w : World) (h : NmAt w p st bd) : Calls Try.prog 18 #[.pointer (some ⟨p, 0, none⟩)] w fun e w' => e = .returned (.int .i64 bd) ∧ w = w' := by
  have c := h.bound
  clear h
  go_enter Try.func18, Try.ntmps18
  go_wp2
  go_ret
  exact ⟨rfl, rfl⟩
theorem bound_nil (w : World) : Calls Try.prog 18 #[.pointer none] w fun e w' => e = .returned (.int .i64 0) ∧ w = w' := by
  go_enter Try.func18, Try.ntmps18
  go_wp2
  go_ret
  exact ⟨rfl, rfl⟩

/-- The state of a number: 0, if it is no name. -/
def stOf (st : List Int) (i : Int) : Int := if isName i then st.getD i.toNat 0 else 0

theorem is_any (p : Nat) (st : List Int) (bd i : Int) (w : World) (h : NmAt w p st bd) : Calls Try.prog 17 #[.pointer (some ⟨p, 0, none⟩), .int .i64 i] w fun e w' => e = .returned (.bool (stOf st i == 2)) ∧ w = w' := by
  cases hb : isName i with
  | false =>
    have hs : Hid (stOf st i = 0) := by simp [Hid, stOf, hb]
    have HB := Lib.hid hb; clear hb
    go_enter Try.func17, Try.ntmps17
    go_wp2_with (go_at_call 23; refine (name_any i _).mono ?_; rw [HB.out]; rintro e w1 ⟨rfl, rfl⟩)
    go_ret
    exact ⟨by rw [hs.out]; rfl, rfl⟩
  | true =>
    have hi : 1 ≤ i ∧ i ≤ 64 := by simpa [isName] using hb
    obtain ⟨m, rfl⟩ := Int.eq_ofNat_of_zero_le (show 0 ≤ i by omega)
    have hs : Hid (stOf st (m : Int) = st.getD m 0) := by simp [Hid, stOf, hb]
    have c := h.cell m (by omega)
    have HB := Lib.hid hb; clear hb
    have hm : (m : Int) < 65 := by omega
    clear h
    generalize st.getD m 0 = x at *
    go_enter Try.func17, Try.ntmps17
    go_wp2_with (go_at_call 23; refine (name_any (m : Int) _).mono ?_; rw [HB.out]; rintro e w1 ⟨rfl, rfl⟩)
    go_ret
    exact ⟨by rw [hs.out]; rfl, rfl⟩

theorem used_any (p : Nat) (st : List Int) (bd i : Int) (w : World) (h : NmAt w p st bd) : Calls Try.prog 15 #[.pointer (some ⟨p, 0, none⟩), .int .i64 i] w fun e w' => e = .returned (.bool (stOf st i != 0)) ∧ w = w' := by
  cases hb : isName i with
  | false =>
    have hs : Hid (stOf st i = 0) := by simp [Hid, stOf, hb]
    have HB := Lib.hid hb; clear hb
    go_enter Try.func15, Try.ntmps15
    go_wp2_with (go_at_call 23; refine (name_any i _).mono ?_; rw [HB.out]; rintro e w1 ⟨rfl, rfl⟩)
    go_ret
    exact ⟨by rw [hs.out]; rfl, rfl⟩
  | true =>
    have hi : 1 ≤ i ∧ i ≤ 64 := by simpa [isName] using hb
    obtain ⟨m, rfl⟩ := Int.eq_ofNat_of_zero_le (show 0 ≤ i by omega)
    have hs : Hid (stOf st (m : Int) = st.getD m 0) := by simp [Hid, stOf, hb]
    have c := h.cell m (by omega)
    have HB := Lib.hid hb; clear hb
    have hm : (m : Int) < 65 := by omega
    clear h
    generalize st.getD m 0 = x at *
    go_enter Try.func15, Try.ntmps15
    go_wp2_with (go_at_call 23; refine (name_any (m : Int) _).mono ?_; rw [HB.out]; rintro e w1 ⟨rfl, rfl⟩)
    go_ret
    exact ⟨by rw [hs.out]; rfl, rfl⟩


/-- What Bind does. -/
def bindR (st : List Int) (bd i : Int) : Bool × Int × List Int × Int :=
  if i = 0 then (false, 0, st, 0) else if isName i then (stOf st i != 2, 0, st.set i.toNat 2, i) else (false, 2, st, bd)
/-- What Delete does. -/
def delR (st : List Int) (bd i : Int) : Bool × Int × List Int × Int :=
  if i = 0 then (false, 0, st, bd) else if isName i then (stOf st i == 2, 0, st.set i.toNat 0, if bd = i then 0 else bd) else (false, 2, st, bd)

set_option maxHeartbeats 1000000 in
theorem bind_any (p : Nat) (st : List Int) (bd i : Int) (w : World) (h : NmAt w p st bd) : Calls Try.prog 13 #[.pointer (some ⟨p, 0, none⟩), .int .i64 i] w fun e w' =>
    e = .returned (.tuple #[.bool (bindR st bd i).1, .int .i64 (bindR st bd i).2.1]) ∧ NmAt w' p (bindR st bd i).2.2.1 (bindR st bd i).2.2.2 ∧ Chg [p] w w' := by
  by_cases h0 : i = 0
  · subst h0
    have c := h.bound
    have f := h.free 65
    have hR : Hid (bindR st bd 0 = (false, 0, st, 0)) := rfl
    have H := Lib.hid h; clear h
    go_enter Try.func13, Try.ntmps13
    go_wp2
    go_ret2
    rw [hR.out]
    exact ⟨rfl, H.out.setBound 0, (Chg.refl _ _).setCell (by simp) _⟩
  · have h0' : (i == 0) = false := by simpa using h0
    have h0'' : (i != 0) = true := by simpa using h0
    cases hb : isName i with
    | false =>
      have hR : Hid (bindR st bd i = (false, 2, st, bd)) := by simp [Hid, bindR, hb, h0]
      have HB := Lib.hid hb; clear hb
      go_enter Try.func13, Try.ntmps13
      go_wp2_with (go_at_call 23; refine (name_any i _).mono ?_; rw [HB.out]; rintro e w1 ⟨rfl, rfl⟩)
      go_ret2
      rw [hR.out]
      exact ⟨rfl, h, Chg.refl _ _⟩
    | true =>
      have hi : 1 ≤ i ∧ i ≤ 64 := by simpa [isName] using hb
      obtain ⟨m, rfl⟩ := Int.eq_ofNat_of_zero_le (show 0 ≤ i by omega)
      have hR : Hid (bindR st bd (m : Int) = (st.getD m 0 != 2, 0, st.set m 2, (m : Int))) := by show _ = _; unfold bindR; rw [if_neg h0, if_pos hb]; unfold stOf; rw [if_pos hb]; rfl
      have c := h.cell m (by omega)
      have c2 := h.bound
      have f := h.free 65
      have f2 := h.free m
      have hm : (m : Int) < 65 := by omega
      have hm2 : m ≠ 65 := by omega
      have H := Lib.hid h; clear h
      have HB := Lib.hid hb; clear hb
      generalize hx : st.getD m 0 = x at *
      clear hx
      go_enter Try.func13, Try.ntmps13
      go_wp2_with (go_at_call 23; refine (name_any (m : Int) _).mono ?_; rw [HB.out]; rintro e w1 ⟨rfl, rfl⟩)
      go_ret2
      rw [hR.out]
      exact ⟨rfl, (H.out.setBound _).setState m (by omega) 2, ((Chg.refl _ _).setCell (by simp) _).setCell (by simp) _⟩

set_option maxHeartbeats 1000000 in
theorem delete_any (p : Nat) (st : List Int) (bd i : Int) (w : World) (h : NmAt w p st bd) : Calls Try.prog 14 #[.pointer (some ⟨p, 0, none⟩), .int .i64 i] w fun e w' =>
    e = .returned (.tuple #[.bool (delR st bd i).1, .int .i64 (delR st bd i).2.1]) ∧ NmAt w' p (delR st bd i).2.2.1 (delR st bd i).2.2.2 ∧ Chg [p] w w' := by
  by_cases h0 : i = 0
  · subst h0
    have hR : Hid (delR st bd 0 = (false, 0, st, bd)) := rfl
    go_enter Try.func14, Try.ntmps14
    go_wp2
    go_ret2
    rw [hR.out]
    exact ⟨rfl, h, Chg.refl _ _⟩
  · have h0' : (i == 0) = false := by simpa using h0
    cases hb : isName i with
    | false =>
      have hR : Hid (delR st bd i = (false, 2, st, bd)) := by simp [Hid, delR, hb, h0]
      have HB := Lib.hid hb; clear hb
      go_enter Try.func14, Try.ntmps14
      go_wp2_with (go_at_call 23; refine (name_any i _).mono ?_; rw [HB.out]; rintro e w1 ⟨rfl, rfl⟩)
      go_ret2
      rw [hR.out]
      exact ⟨rfl, h, Chg.refl _ _⟩
    | true =>
      have hi : 1 ≤ i ∧ i ≤ 64 := by simpa [isName] using hb
      obtain ⟨m, rfl⟩ := Int.eq_ofNat_of_zero_le (show 0 ≤ i by omega)
      have hR : Hid (delR st bd (m : Int) = (st.getD m 0 == 2, 0, st.set m 0, if bd = m then 0 else bd)) := by show _ = _; unfold delR; rw [if_neg h0, if_pos hb]; unfold stOf; rw [if_pos hb]; rfl
      have c := h.cell m (by omega)
      have c2 := h.bound
      have f := h.free 65
      have f2 := h.free m
      have hm : (m : Int) < 65 := by omega
      have hm2 : 65 ≠ m := by omega
      have c3 : (w.setCell ⟨p, m, none⟩ (.int .u8 0)).cell? ⟨p, 65, none⟩ = some (.int .i64 bd) := (h.setState m (by omega) 0).bound
      have H := Lib.hid h; clear h
      have HB := Lib.hid hb; clear hb
      generalize hx : st.getD m 0 = x at *
      clear hx
      by_cases hbd : bd = m
      · have hbd' : (bd == (m : Int)) = true := by simpa using hbd
        have HBD := Lib.hid hbd; clear hbd
        go_enter Try.func14, Try.ntmps14
        go_wp2_with (go_at_call 23; refine (name_any (m : Int) _).mono ?_; rw [HB.out]; rintro e w1 ⟨rfl, rfl⟩)
        go_ret2
        rw [hR.out, if_pos HBD.out]
        exact ⟨rfl, (H.out.setState m (by omega) 0).setBound 0, ((Chg.refl _ _).setCell (by simp) _).setCell (by simp) _⟩
      · have hbd' : (bd == (m : Int)) = false := by simpa using hbd
        have HBD := Lib.hid hbd; clear hbd
        go_enter Try.func14, Try.ntmps14
        go_wp2_with (go_at_call 23; refine (name_any (m : Int) _).mono ?_; rw [HB.out]; rintro e w1 ⟨rfl, rfl⟩)
        go_ret2
        rw [hR.out, if_neg HBD.out]
        exact ⟨rfl, H.out.setState m (by omega) 0, (Chg.refl _ _).setCell (by simp) _⟩

/-- The free ones of the first n names. -/
def freeL (st : List Int) (n : Nat) : List Nat := (List.range' 1 n).filter fun k => st.getD k 0 == 0

theorem freeL_succ (st : List Int) (n : Nat) : freeL st (n + 1) = freeL st n ++ if st.getD (n + 1) 0 == 0 then [n + 1] else [] := by
  unfold freeL
  rw [List.range'_1_concat, List.filter_append, Nat.add_comm 1 n]
  simp only [List.filter_cons, List.filter_nil]
theorem freeL_length (st : List Int) : ∀ n, (freeL st n).length ≤ n
  | 0 => by simp [freeL]
  | n + 1 => by
    have := freeL_length st n
    rw [freeL_succ, List.length_append]
    split <;> simp <;> omega

set_option maxHeartbeats 1000000 in
theorem left_any (p : Nat) (st : List Int) (bd : Int) (w : World) (h : NmAt w p st bd) : Calls Try.prog 16 #[.pointer (some ⟨p, 0, none⟩)] w fun e w' => e = .returned (.int .i64 (freeL st 64).length) ∧ w = w' := by
  go_enter Try.func16, Try.ntmps16
  go_wp2
  go_loop [3, 4] (fun k i => ∃ m : Nat, m ≤ 64 ∧ i = .int .i64 ((m : Int) + 1) ∧ k = .int .i64 (freeL st m).length) (fun _ i => (65 - intOf i).toNat)
  case atStart => exact ⟨0, Nat.zero_le _, rfl, rfl⟩
  case round =>
    obtain ⟨m, hm, rfl, rfl⟩ := hrel
    have hb := freeL_length st m
    by_cases hlt : m < 64
    · have e1 : (m : Int) + 1 = ((m + 1 : Nat) : Int) := by omega
      rw [e1]
      have c := h.cell (m + 1) (by omega)
      have hs := Lib.hid (freeL_succ st m)
      have hlt1 : ((m + 1 : Nat) : Int) ≤ 64 := by omega
      have hlt2 : ((m + 1 : Nat) : Int) < 65 := by omega
      clear e1
      by_cases hx : st.getD (m + 1) 0 = 0
      · have hx' : (st.getD (m + 1) 0 == 0) = true := by simpa using hx
        have HX := Lib.hid hx'
        rw [hx] at c
        clear hx hx'
        generalize hn : (freeL st m).length = n at *
        have HN := Lib.hid hn; clear hn
        go_wp2
        go_round
        case rel => exact ⟨m + 1, by omega, by go_num, by rw [hs.out, List.length_append, HN.out, if_pos HX.out]; go_num⟩
        case measure => simp [intOf]; omega
      · have hx' : (st.getD (m + 1) 0 == 0) = false := by simpa using hx
        have HX := Lib.hid hx'
        generalize hn : (freeL st m).length = n at *
        have HN := Lib.hid hn; clear hn
        generalize st.getD (m + 1) 0 = x at *
        go_wp2
        go_round
        case rel => exact ⟨m + 1, by omega, by go_num, by rw [hs.out, List.length_append, HN.out, HX.out]; rfl⟩
        case measure => simp [intOf]; omega
    · have hm64 : m = 64 := by omega
      subst hm64
      go_wp2
      go_ret
      exact ⟨rfl, rfl⟩

end Go.Proofs.Ytdomijfkpbganaa
