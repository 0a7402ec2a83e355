/- Contracts: bins and the document's, but for Add, List, Paint. Conditions: each theorem's own premises. -/
import Derived.Test.YtocdkdkiiammfaaRows
import Derived.Test.YtocdkdkiiammfaaFold
import Derived.Test.YtocdkdkiiammfaaOpen
import Derived.Deep.DeepCutAuto
import Derived.OwnWalkIn
import Derived.Deep.RegionWith
import Derived.Deep.RegionLaw
import Derived.Deep.DrawnRows
import Derived.Deep.RegionHeld3
import Derived.Deep.AppendLies
import Derived.Lib.Hide
import Derived.Lib.SliceRun
namespace Go.Proofs.Ytocdkdkiiammfaa
open Go.RowKit
set_option linter.unusedVariables false
set_option maxRecDepth 100000

/-- What owns a row is a slice. -/
theorem ownsB_slice {w : World} {base : Nat} {e : TypeId} {size : Nat} {v : Value} {n : Nat} {xs : List Value} (h : w.ownsRow base e size v n xs) : ∃ a cap, v = .slice a n cap := by
  rcases h.2 with ⟨rfl, rfl⟩ | ⟨g, cap, cur, rfl, _⟩
  · exact ⟨_, _, rfl⟩
  · exact ⟨_, _, rfl⟩
/-- How many tiles a side has. -/
def acr (n : Nat) : Nat := (n + 15) / 16
theorem acr_le {n : Nat} (h : n ≤ 64) : acr n ≤ 4 := by unfold acr; omega
set_option maxRecDepth 100000 in
theorem across_any (n : Nat) (h : n ≤ 1000) (w : World) : Calls Try.prog 19 #[.int .i64 n] w fun e w' => e = .returned (.int .i64 (acr n : Nat)) ∧ w = w' := by
  have s1 : Int.tdiv ((n : Int) + 16 - 1) 16 = (acr n : Nat) := by rw [Int.tdiv_eq_ediv_of_nonneg (by omega)]; unfold acr; omega
  have s2 : ((n : Int) + 16 - 1) / 16 = (acr n : Nat) := by unfold acr; omega
  have s3 : ((n : Int) + 15) / 16 = (acr n : Nat) := by unfold acr; omega
  have h2 : (n : Int) ≤ 1000 := by omega
  go_enter Try.func19, Try.ntmps19
  go_wp2
  go_ret
  exact ⟨rfl, rfl⟩
theorem racross_any (n : Nat) (h : n ≤ 1000) (w : World) : Calls Try.prog 20 #[.int .i64 n] w fun e w' => e = .returned (.int .i64 (acr n : Nat)) ∧ w = w' := by
  have s1 : Int.tdiv ((n : Int) + 16 - 1) 16 = (acr n : Nat) := by rw [Int.tdiv_eq_ediv_of_nonneg (by omega)]; unfold acr; omega
  have s2 : ((n : Int) + 16 - 1) / 16 = (acr n : Nat) := by unfold acr; omega
  have s3 : ((n : Int) + 15) / 16 = (acr n : Nat) := by unfold acr; omega
  have h2 : (n : Int) ≤ 1000 := by omega
  go_enter Try.func20, Try.ntmps20
  go_wp2
  go_ret
  exact ⟨rfl, rfl⟩
def sidesOk (w h : Int) : Bool := decide (1 ≤ w) && (decide (w ≤ 64) && (decide (1 ≤ h) && decide (h ≤ 64)))
/-- Bins in their block. -/
def BAt (w : World) (p : Nat) (W H : Nat) (sl : Value) (n : Int) : Prop := w.heap[p]? = some (.cells #[.int .i64 W, .int .i64 H, sl, .int .i64 n] 57 (0, 0))
theorem BAt.ext {w w' : World} {p W H : Nat} {sl : Value} {n : Int} (h : BAt w p W H sl n) (x : Ext w w') : BAt w' p W H sl n := x.heap h
theorem BAt.chg {M : List Nat} {w w' : World} {p W H : Nat} {sl : Value} {n : Int} (h : BAt w p W H sl n) (x : Chg M w w') (hp : p ∉ M) : BAt w' p W H sl n := x.heap h hp
theorem info_sls : (Try.prog.info? 34).map (fun i => (i.zero, i.size, i.bytes)) = some (some (.slice none 0 0), 1, 24) := by kernel_rfl
set_option maxRecDepth 100000 in
theorem new_bad (a b : Int) (h : sidesOk a b = false) (w : World) : Calls Try.prog 6 #[.int .i64 a, .int .i64 b] w fun e w' => e = .returned (.tuple #[.pointer none, .int .i64 2]) ∧ w = w' := by
  unfold sidesOk at h
  by_cases h1 : a < 1
  · clear h
    go_enter Try.func6, Try.ntmps6
    go_wp2
    go_ret2
    exact ⟨rfl, rfl⟩
  by_cases h2 : 64 < a
  · clear h
    go_enter Try.func6, Try.ntmps6
    go_wp2
    go_ret2
    exact ⟨rfl, rfl⟩
  by_cases h3 : b < 1
  · clear h
    go_enter Try.func6, Try.ntmps6
    go_wp2
    go_ret2
    exact ⟨rfl, rfl⟩
  by_cases h4 : 64 < b
  · clear h
    go_enter Try.func6, Try.ntmps6
    go_wp2
    go_ret2
    exact ⟨rfl, rfl⟩
  · rw [decide_eq_true (show 1 ≤ a by omega), decide_eq_true (show a ≤ 64 by omega), decide_eq_true (show 1 ≤ b by omega), decide_eq_true (show b ≤ 64 by omega)] at h
    cases h
theorem made_list (T : Nat) : (madeCells #[Value.slice none 0 0] T).toList = List.replicate T (Value.slice none 0 0) := by
  refine List.eq_replicate_iff.2 ⟨by simp [madeCells], fun b hb => ?_⟩
  simp [madeCells] at hb
  obtain ⟨a, _, rfl⟩ := hb
  simp [Nat.mod_one]
set_option maxRecDepth 100000 in
theorem new_any (W H : Nat) (h1 : 1 ≤ W) (h2 : W ≤ 64) (h3 : 1 ≤ H) (h4 : H ≤ 64) (w : World) : Calls Try.prog 6 #[.int .i64 W, .int .i64 H] w fun e w' => ∃ p g, e = .returned (.tuple #[.pointer (some ⟨p, 0, none⟩), .int .i64 0]) ∧ w.heap.size ≤ g ∧ g < p ∧ BAt w' p W H (.slice (some ⟨g, 0, none⟩) (acr W * acr H) (acr W * acr H)) 0 ∧ w'.heap[g]? = some (.cells (List.replicate (acr W * acr H) (Value.slice none 0 0)).toArray 34 (0, 0)) ∧ Ext w w' := by
  obtain ⟨i0, hi, hz0, hz1, hz2⟩ := info_parts info_sls
  have ha := acr_le h2
  have hb := acr_le h4
  have i1 : (1 : Int) ≤ (W : Int) := by omega
  have i2 : (W : Int) ≤ 64 := by omega
  have i3 : (1 : Int) ≤ (H : Int) := by omega
  have i4 : (H : Int) ≤ 64 := by omega
  have hab : acr W * acr H ≤ 16 := Nat.mul_le_mul ha hb
  have HAB := Lib.hid (show ((acr W : Nat) : Int) * (acr H : Nat) = ((acr W * acr H : Nat) : Int) by simp)
  generalize hT : acr W * acr H = T at *
  have HAW := Lib.hid (across_any W (by omega))
  have HAH := Lib.hid (across_any H (by omega))
  generalize acr W = A at *
  generalize acr H = B at *
  have s1 : IntKind.i64.wrap ((A : Int) * (B : Int)) = (T : Int) := by rw [HAB.out]; exact IntWalk.i64_in _ ⟨by omega, by omega⟩
  clear hT
  go_enter Try.func6, Try.ntmps6
  go_wp2_with (first | (go_at_call_of 19 W; refine (HAW.out _).mono ?_; rintro _ _ ⟨rfl, rfl⟩) | (go_at_call 19; refine (HAH.out _).mono ?_; rintro _ _ ⟨rfl, rfl⟩) | (at_make; refine wpList_make_full _ rfl _ _ 54 rfl w.heap.size 34 i0 (.slice none 0 0) 1 Try.underlying54 hi hz0 hz1 _ _ _ _ T rfl rfl rfl rfl ?b2 ?b3 (Nat.le_refl _) ?_))
  case b2 => rw [hz2]; omega
  case b3 => unfold maxLen; omega
  intro w1 hown hgrow
  have hx1 : Ext w w1 := (Ext.refl w).grown hgrow (by intro k hk; cases hk)
  have HX1 := Lib.hid hx1
  have HG : Hid (w1.heap[w.heap.size]? = some (.cells (List.replicate T (Value.slice none 0 0)).toArray 34 (0, 0))) := by
    rcases hown.2 with ⟨h, _⟩ | ⟨g, cap, cur, he, _, hh, hn1, _, hs, htk⟩
    · cases h
    · simp at he
      obtain ⟨rfl, rfl⟩ := he
      have hcur : cur.toList = List.replicate T (Value.slice none 0 0) := by
        rw [← List.take_of_length_le (l := cur.toList) (i := T * 1) (by simp [hs]), htk]
        exact made_list T
      show w1.heap[w.heap.size]? = _
      rw [hh, ← hcur]
  have hsz := hx1.size
  have hlt := heap_lt HG.out
  clear hown hgrow hx1
  go_wp2_with fail
  go_ret2
  exact ⟨_, _, rfl, Nat.le_refl _, hlt, heap_alloc_new _ _, ((Ext.refl _).alloc _).heap HG.out, HX1.out.alloc _⟩
/-- Which tile a cell lies in. -/
def inB (W H : Nat) (x y : Int) : Bool := decide (0 ≤ x) && (decide (x < W) && (decide (0 ≤ y) && decide (y < H)))
def tlV (W : Nat) (x y : Int) : Int := y / 16 * (acr W : Nat) + x / 16
theorem tile_in (W : Nat) (x y : Int) (hx0 : 0 ≤ x) (hx1 : x < 64) (hy0 : 0 ≤ y) (hy1 : y < 64) (hW : W ≤ 64) : 0 ≤ tlV W x y ∧ tlV W x y ≤ 20 := by
  have ha := acr_le hW
  obtain ⟨q, hq⟩ : ∃ q : Nat, y / 16 = q := ⟨(y / 16).toNat, by omega⟩
  have hq3 : q ≤ 3 := by omega
  unfold tlV
  rw [hq]
  have h1 : q * acr W ≤ 3 * 4 := Nat.mul_le_mul hq3 ha
  have h2 : ((q : Int) * ((acr W : Nat) : Int)) = ((q * acr W : Nat) : Int) := by simp
  rw [h2]
  omega
theorem bool_out {W H : Nat} {x y : Int} (h : inB W H x y = false) : x < 0 ∨ (0 ≤ x ∧ (W : Int) ≤ x) ∨ (0 ≤ x ∧ x < W ∧ y < 0) ∨ (0 ≤ x ∧ x < W ∧ 0 ≤ y ∧ (H : Int) ≤ y) := by
  unfold inB at h
  by_cases h1 : 0 ≤ x
  · by_cases h2 : x < W
    · by_cases h3 : 0 ≤ y
      · by_cases h4 : y < H
        · rw [decide_eq_true h1, decide_eq_true h2, decide_eq_true h3, decide_eq_true h4] at h; cases h
        · omega
      · omega
    · omega
  · omega
theorem inB_true {W H : Nat} {x y : Int} (h : inB W H x y = true) : 0 ≤ x ∧ x < W ∧ 0 ≤ y ∧ y < H := by
  unfold inB at h
  simpa using h
set_option maxRecDepth 100000 in
theorem tile_any (p W H : Nat) (sl : Value) (n x y : Int) (w : World) (hb : BAt w p W H sl n) (hW : W ≤ 64) (hH : H ≤ 64) : Calls Try.prog 8 #[.pointer (some ⟨p, 0, none⟩), .int .i64 x, .int .i64 y] w fun e w' => e = .returned (.tuple #[.int .i64 (if inB W H x y then tlV W x y else 0), .int .i64 (if inB W H x y then 0 else 2)]) ∧ w = w' := by
  have c0 : w.cell? ⟨p, 0, none⟩ = some (.int .i64 W) := cell_of_heap hb rfl
  have c1 : w.cell? ⟨p, 1, none⟩ = some (.int .i64 H) := cell_of_heap hb rfl
  have n0 := heap_lt hb
  cases hi : inB W H x y
  · have ho := bool_out hi
    clear hi
    simp only [Bool.false_eq_true, if_false]
    rcases ho with h | ⟨h1, h2⟩ | ⟨h1, h2, h3⟩ | ⟨h1, h2, h3, h4⟩
    all_goals
      go_enter Try.func8, Try.ntmps8
      go_wp2
      go_ret2
      exact ⟨rfl, rfl⟩
  · obtain ⟨h1, h2, h3, h4⟩ := inB_true hi
    simp only [if_true]
    have hb2 := tile_in W x y h1 (by omega) h3 (by omega) hW
    have HT := Lib.hid (show y / 16 * (acr W : Nat) + x / 16 = tlV W x y from rfl)
    have HA := Lib.hid (across_any W (by omega))
    have ha := acr_le hW
    generalize tlV W x y = T at *
    generalize acr W = A at *
    obtain ⟨q, hq, hq3⟩ : ∃ q : Nat, y / 16 = q ∧ q ≤ 3 := ⟨(y / 16).toNat, by omega, by omega⟩
    obtain ⟨r, hr, hr3⟩ : ∃ r : Nat, x / 16 = r ∧ r ≤ 3 := ⟨(x / 16).toNat, by omega, by omega⟩
    have s1 : Int.tdiv y 16 = q := by rw [Int.tdiv_eq_ediv_of_nonneg h3, hq]
    have s2 : Int.tdiv x 16 = r := by rw [Int.tdiv_eq_ediv_of_nonneg h1, hr]
    obtain ⟨M, hM⟩ : ∃ M, (q : Int) * (A : Int) = M := ⟨_, rfl⟩
    have hT := HT.out
    rw [hq, hr, hM] at hT
    have s3 : IntKind.i64.wrap ((q : Int) * (A : Int)) = M := by rw [hM]; exact IntWalk.i64_in _ ⟨by omega, by omega⟩
    have s4 : IntKind.i64.wrap (M + (r : Int)) = T := by rw [hT]; exact IntWalk.i64_in _ ⟨by omega, by omega⟩
    clear hM hT hi
    go_enter Try.func8, Try.ntmps8
    go_wp2_with (go_at_call 19; refine (HA.out _).mono ?_; rintro _ _ ⟨rfl, rfl⟩)
    go_ret2
    exact ⟨rfl, rfl⟩
set_option maxRecDepth 100000 in
theorem rtile_any (W H : Nat) (x y : Int) (w : World) (hW : W ≤ 64) (hH : H ≤ 64) : Calls Try.prog 9 #[.int .i64 W, .int .i64 H, .int .i64 x, .int .i64 y] w fun e w' => e = .returned (.int .i64 (if inB W H x y then tlV W x y else -1)) ∧ w = w' := by
  cases hi : inB W H x y
  · have ho := bool_out hi
    clear hi
    simp only [Bool.false_eq_true, if_false]
    rcases ho with h | ⟨h1, h2⟩ | ⟨h1, h2, h3⟩ | ⟨h1, h2, h3, h4⟩
    all_goals
      go_enter Try.func9, Try.ntmps9
      go_wp2
      go_ret
      exact ⟨rfl, rfl⟩
  · obtain ⟨h1, h2, h3, h4⟩ := inB_true hi
    simp only [if_true]
    have hb2 := tile_in W x y h1 (by omega) h3 (by omega) hW
    have HT := Lib.hid (show y / 16 * (acr W : Nat) + x / 16 = tlV W x y from rfl)
    have HA := Lib.hid (racross_any W (by omega))
    have ha := acr_le hW
    generalize tlV W x y = T at *
    generalize acr W = A at *
    obtain ⟨q, hq, hq3⟩ : ∃ q : Nat, y / 16 = q ∧ q ≤ 3 := ⟨(y / 16).toNat, by omega, by omega⟩
    obtain ⟨r, hr, hr3⟩ : ∃ r : Nat, x / 16 = r ∧ r ≤ 3 := ⟨(x / 16).toNat, by omega, by omega⟩
    have s1 : Int.tdiv y 16 = q := by rw [Int.tdiv_eq_ediv_of_nonneg h3, hq]
    have s2 : Int.tdiv x 16 = r := by rw [Int.tdiv_eq_ediv_of_nonneg h1, hr]
    obtain ⟨M, hM⟩ : ∃ M, (q : Int) * (A : Int) = M := ⟨_, rfl⟩
    have hT := HT.out
    rw [hq, hr, hM] at hT
    have s3 : IntKind.i64.wrap ((q : Int) * (A : Int)) = M := by rw [hM]; exact IntWalk.i64_in _ ⟨by omega, by omega⟩
    have s4 : IntKind.i64.wrap (M + (r : Int)) = T := by rw [hT]; exact IntWalk.i64_in _ ⟨by omega, by omega⟩
    clear hM hT hi
    go_enter Try.func9, Try.ntmps9
    go_wp2_with (go_at_call 20; refine (HA.out _).mono ?_; rintro _ _ ⟨rfl, rfl⟩)
    go_ret
    exact ⟨rfl, rfl⟩
theorem tiles_any (p W H T : Nat) (a : Option Addr) (c : Nat) (n : Int) (w : World) (hb : BAt w p W H (.slice a T c) n) : Calls Try.prog 11 #[.pointer (some ⟨p, 0, none⟩)] w fun e w' => e = .returned (.int .i64 T) ∧ w = w' := by
  have c0 : w.cell? ⟨p, 2, none⟩ = some (.slice a T c) := cell_of_heap hb rfl
  have n0 := heap_lt hb
  go_enter Try.func11, Try.ntmps11
  go_wp2
  go_ret
  exact ⟨rfl, rfl⟩
theorem len_any (p W H : Nat) (sl : Value) (n : Int) (w : World) (hb : BAt w p W H sl n) : Calls Try.prog 15 #[.pointer (some ⟨p, 0, none⟩)] w fun e w' => e = .returned (.int .i64 n) ∧ w = w' := by
  have c0 : w.cell? ⟨p, 3, none⟩ = some (.int .i64 n) := cell_of_heap hb rfl
  have n0 := heap_lt hb
  go_enter Try.func15, Try.ntmps15
  go_wp2
  go_ret
  exact ⟨rfl, rfl⟩
end Go.Proofs.Ytocdkdkiiammfaa
