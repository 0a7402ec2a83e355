/- The document's Unpack, in the formats of 16 bits. Conditions: each theorem's own premises. -/
import Derived.Test.YtgdcdkajicgliaaPix6
namespace Go.Proofs.Ytgdcdkajicgliaa
open Go.RowKit
set_option linter.unusedVariables false
set_option maxRecDepth 100000

/-- What the document lays for a channel. -/
def refE (W : List Nat) (X : Int) (i : Nat) : Int :=
  if 0 < W.getD i 0 then numV (X / 2 ^ (W.drop (i + 1)).sum % 2 ^ (W.getD i 0)) (W.getD i 0) else if i = 3 then 65536 else 0
def refO (W : List Nat) (X : Int) (j : Nat) : List Int :=
  [if j ≤ 0 then refE W X 0 else 0, if j ≤ 1 then refE W X 1 else 0, if j ≤ 2 then refE W X 2 else 0, if j ≤ 3 then refE W X 3 else 65536]
theorem refO_step (W : List Nat) (X : Int) (m : Nat) (hm : m < 4) : refO W X m = (refO W X (m + 1)).set m (refE W X m) := by
  have : m = 0 ∨ m = 1 ∨ m = 2 ∨ m = 3 := by omega
  rcases this with rfl | rfl | rfl | rfl <;> simp [refO]
theorem refO_skip (W : List Nat) (X : Int) (m : Nat) (hm : m < 4) (h : ¬ 0 < W.getD m 0) : refO W X m = refO W X (m + 1) := by
  have he : refE W X m = if m = 3 then 65536 else 0 := by unfold refE; rw [if_neg h]
  have : m = 0 ∨ m = 1 ∨ m = 2 ∨ m = 3 := by omega
  rcases this with rfl | rfl | rfl | rfl <;> simp [refO, he]
theorem drop_sum (W : List Nat) (m : Nat) (h : m < W.length) : (W.drop m).sum = W.getD m 0 + (W.drop (m + 1)).sum := by
  rw [List.drop_eq_getElem_cons h, List.sum_cons, List.getD_eq_getElem?_getD, List.getElem?_eq_getElem h]
  rfl
theorem div_step (X : Int) (W : List Nat) (m : Nat) (h : m < W.length) : X / 2 ^ (W.drop (m + 1)).sum / 2 ^ (W.getD m 0) = X / 2 ^ (W.drop m).sum := by
  rw [drop_sum W m h, Nat.add_comm (W.getD m 0), Int.pow_add, Int.ediv_ediv_of_nonneg (Int.le_of_lt (Int.pow_pos (by decide)))]
theorem rem_core (x : Int) (k : Nat) (h0 : 0 ≤ x) (hk : k ≤ 16) : IntKind.u32.wrap (x.tmod (2 ^ k)) = x % 2 ^ k := by
  have p1 : (1 : Int) ≤ 2 ^ k := Int.pow_pos (by decide)
  have p2 : (2 : Int) ^ k ≤ 65536 := by
    have : (2 : Int) ^ k ≤ 2 ^ 16 := by exact_mod_cast Nat.pow_le_pow_right (by decide) hk
    simpa using this
  rw [Int.tmod_eq_emod_of_nonneg h0]
  have a := Int.emod_nonneg x (show (2 : Int) ^ k ≠ 0 by omega)
  have b := Int.emod_lt_of_pos x (show (0 : Int) < 2 ^ k by omega)
  exact wraps_u32 _ a (by omega)

set_option maxHeartbeats 4000000 in
set_option maxRecDepth 20000 in
theorem refunp_word (n : Nat) (v : Value) (z y : Int) (w : World) (hn : n = 2 ∨ n = 3 ∨ n = 4) (h : Ints .u8 w v [z, y]) : Calls Try.prog 111 #[.int .i64 (n : Int), v] w fun e w' => e = .returned (.agg (vecC (refO (widL n) (leN [z, y]) 0))) ∧ Ext w w' := by
  have hnum := Lib.hid (fun (w' : World) (x : Ext w w') => refnumber_any v [z, y] w' (h.ext x) (by simp))
  have hX := leN_bound [z, y] (fun t ht => u8_of_wf (h.2 t ht))
  have hX2 : leN [z, y] < 65536 := hX.2
  have hX0 := hX.1
  obtain ⟨hlen, a, cap, rfl, _, hc, hz, hp⟩ := h.1
  have hwid : Hid (∀ w, Calls Try.prog 104 #[.int .i64 (n : Int)] w fun e w' => e = .returned (.agg (widC n)) ∧ Ext w w') := fun w => widths_any n w
  have hWl : (widL n).length = 4 := by unfold widL; split <;> (try split) <;> rfl
  have hW8 : ∀ k ∈ widL n, k ≤ 8 := by unfold widL; split <;> (try split) <;> decide
  obtain ⟨q0, q1, q2, q3, hq⟩ : ∃ q0 q1 q2 q3, widL n = [q0, q1, q2, q3] := by
    match hW : widL n, hWl with
    | [q0, q1, q2, q3], _ => exact ⟨q0, q1, q2, q3, rfl⟩
  have hwc : widC n = #[.int .i64 (q0 : Int), .int .i64 (q1 : Int), .int .i64 (q2 : Int), .int .i64 (q3 : Int)] := by unfold widC; rw [hq]; rfl
  rw [hwc] at hwid
  have n1 : ((n : Int) == 1) = false := by rcases hn with rfl | rfl | rfl <;> rfl
  have n5 : ((n : Int) == 5) = false := by rcases hn with rfl | rfl | rfl <;> rfl
  have n6 : ((n : Int) == 6) = false := by rcases hn with rfl | rfl | rfl <;> rfl
  have n7 : ((n : Int) == 7) = false := by rcases hn with rfl | rfl | rfl <;> rfl
  generalize hXe : leN [z, y] = X at *
  have hXw : wrap64 X = X := w64_in X (by omega)
  clear hn hXe hwc hX h hlen hp
  go_enter Try.func111, Try.ntmps111
  go_wp2_with (first | (go_at_call 130; refine (hnum.out _ ((Ext.refl _).alloc _)).mono ?_; rintro e w1 ⟨rfl, rfl⟩) | (go_at_call 104; refine (hwid.out _).mono ?_; rintro e w1 ⟨rfl, hx1⟩; have hres1 := hx1.heap (heap_alloc_new _ _)))
  obtain ⟨w2, wb, ob, hw2, hwb, hob, hx2, hne, hbig⟩ : ∃ w2 wb ob, ((w1.alloc (.cells #[.int .i64 (q0 : Int), .int .i64 (q1 : Int), .int .i64 (q2 : Int), .int .i64 (q3 : Int)] 180)).alloc (.cells #[.int .i32 0, .int .i32 0, .int .i32 0, .int .i32 65536] 26)) = w2 ∧ (w1.heap.size = wb ∧ w2.heap[wb]? = some (.cells #[.int .i64 (q0 : Int), .int .i64 (q1 : Int), .int .i64 (q2 : Int), .int .i64 (q3 : Int)] 180 (0, 0))) ∧ (w1.heap.size + 1 = ob ∧ w2.heap[ob]? = some (.cells #[.int .i32 0, .int .i32 0, .int .i32 0, .int .i32 65536] 26 (0, 0))) ∧ Ext w1 w2 ∧ wb ≠ ob ∧ w1.heap.size ≤ ob :=
    ⟨_, _, _, rfl, ⟨rfl, ((Ext.refl _).alloc _).heap (heap_alloc_new _ _)⟩, ⟨rfl, by have := heap_alloc_new (w1.alloc (.cells #[.int .i64 (q0 : Int), .int .i64 (q1 : Int), .int .i64 (q2 : Int), .int .i64 (q3 : Int)] 180)) (.cells #[.int .i32 0, .int .i32 0, .int .i32 0, .int .i32 65536] 26); rw [World.size_alloc] at this; exact this⟩, ((Ext.refl _).alloc _).alloc _, by omega, by omega⟩
  rw [hw2, hob.1, hwb.1]
  have hws := hx1.size
  rw [World.size_alloc] at hws
  have hx := Lib.hid ((((Ext.refl w).alloc _).trans hx1).trans hx2)
  have hres := Lib.hid (hx2.heap hres1)
  have hwb' := hwb.2
  have hob' := hob.2
  clear hw2 hwb hob hx1 hx2 hres1 hnum hwid
  go_loopw [7, 10] (fun x i wr => ∃ (j : Nat), j ≤ 4 ∧ i = .int .i64 ((j : Int) - 1) ∧ x = .int .i64 (X / 2 ^ ((widL n).drop j).sum) ∧ wr.heap[ob]? = some (.cells (vecC (refO (widL n) X j)) 26 (0, 0)) ∧ Chg [ob] w2 wr) (fun _ i _ => (intOf i + 1).toNat)
  case atStart => exact ⟨4, Nat.le_refl _, rfl, by rw [hq]; simp, by rw [hob']; rfl, Chg.refl _ _⟩
  case round =>
    obtain ⟨j, hj, rfl, rfl, hwo, hc2⟩ := hrel
    rcases j with _ | m
    · have hresR := hc2.heap hres.out (by simp; omega)
      have hxr := Lib.hid (hx.out.chgTrans hc2 (by simp; omega))
      have d0 : wr.cell? ⟨ob, 0, none⟩ = some (.int .i32 (refE (widL n) X 0)) := cell_of_heap hwo rfl
      have d1 : wr.cell? ⟨ob, 1, none⟩ = some (.int .i32 (refE (widL n) X 1)) := cell_of_heap hwo rfl
      have d2 : wr.cell? ⟨ob, 2, none⟩ = some (.int .i32 (refE (widL n) X 2)) := cell_of_heap hwo rfl
      have d3 : wr.cell? ⟨ob, 3, none⟩ = some (.int .i32 (refE (widL n) X 3)) := cell_of_heap hwo rfl
      have HV := Lib.hid (show refO (widL n) X 0 = [refE (widL n) X 0, refE (widL n) X 1, refE (widL n) X 2, refE (widL n) X 3] from rfl)
      generalize refE (widL n) X 0 = t0 at *
      generalize refE (widL n) X 1 = t1 at *
      generalize refE (widL n) X 2 = t2 at *
      generalize refE (widL n) X 3 = t3 at *
      clear hwo hc2 hj
      go_wp2_with (refine wpList_store_whole rfl 26 _ _ rfl w.heap.size #[.int .i32 t0, .int .i32 t1, .int .i32 t2, .int .i32 t3] rfl rfl #[.int .i32 0, .int .i32 0, .int .i32 0, .int .i32 0] 26 hresR rfl info_vec (by simp [Value.oneCell']) ?_; intro w7 hw7 hc7)
      have hload := run_loadVar_whole (P := Try.prog) 26 _ hw7 Try.underlying26 rfl info_vec
      refine bodyPost_ret (results_cell1 rfl _ _ _ _ rfl hload) rfl ?_
      rw [HV.out]
      exact ⟨rfl, hxr.out.chgTrans hc7 (by simp)⟩
    · have e1 : ((m + 1 : Nat) : Int) - 1 = (m : Int) := by omega
      rw [e1]
      have hm4 : m < 4 := by omega
      have hm4' : (m : Int) < 4 := by omega
      have hm0' : (0 : Int) ≤ (m : Int) := by omega
      have hk8 : (widL n).getD m 0 ≤ 8 := by rw [List.getD_eq_getElem?_getD, List.getElem?_eq_getElem (by omega)]; exact hW8 _ (List.getElem_mem _)
      have hwbr := hc2.heap hwb' (by simp; omega)
      have hck : wr.cell? ⟨wb, m, none⟩ = some (.int .i64 (((widL n).getD m 0 : Nat) : Int)) := cell_of_heap hwbr (by
        rw [hq]
        have : m = 0 ∨ m = 1 ∨ m = 2 ∨ m = 3 := by omega
        rcases this with rfl | rfl | rfl | rfl <;> rfl)
      have hstep := Lib.hid (refO_step (widL n) X m hm4)
      have hskip := Lib.hid (refO_skip (widL n) X m hm4)
      have hdiv := Lib.hid (div_step X (widL n) m (by omega))
      have hE := Lib.hid (show refE (widL n) X m = if 0 < (widL n).getD m 0 then numV (X / 2 ^ ((widL n).drop (m + 1)).sum % 2 ^ ((widL n).getD m 0)) ((widL n).getD m 0) else if m = 3 then 65536 else 0 from rfl)
      have hsum := Lib.hid (drop_sum (widL n) m (by omega))
      have hx0 : 0 ≤ X / 2 ^ ((widL n).drop (m + 1)).sum := Int.ediv_nonneg hX0 (Int.le_of_lt (Int.pow_pos (by decide)))
      have hx1 : X / 2 ^ ((widL n).drop (m + 1)).sum ≤ X := Int.ediv_le_self _ hX0
      generalize hxe : X / 2 ^ ((widL n).drop (m + 1)).sum = x at *
      have HXE := Lib.hid hxe
      clear hxe
      generalize (widL n).getD m 0 = k at *
      have hwos := heap_lt hwo
      have hwbs := heap_lt hwbr
      have c3 : wr.cell? ⟨ob, m, none⟩ = some (.int .i32 ((refO (widL n) X (m + 1)).getD m 0)) := cell_of_heap hwo (by
        have : m = 0 ∨ m = 1 ∨ m = 2 ∨ m = 3 := by omega
        rcases this with rfl | rfl | rfl | rfl <;> rfl)
      have c4 : wr.frozen? ⟨ob, m, none⟩ = false := free_of_heap hwo
      have HWO := Lib.hid hwo
      have HC2 := Lib.hid hc2
      have hne2 : ob ≠ wb := fun e => hne e.symm
      clear hwbr e1 hwo hc2
      by_cases hk : 0 < k
      · have hk' : (0 : Int) < (k : Int) := by omega
        have hnz : ¬ (2 : Int) ^ k = 0 := by have : (0 : Int) < 2 ^ k := Int.pow_pos (by decide); omega
        have HR := Lib.hid (rem_core x k hx0 (by omega))
        have hn0 : 0 ≤ x % 2 ^ k := Int.emod_nonneg _ hnz
        have HN1 := Lib.hid (show x % 2 ^ k < 2 ^ k from Int.emod_lt_of_pos _ (Int.pow_pos (by decide)))
        have hk62 : k ≤ 62 := by omega
        have hk16 : k ≤ 16 := by omega
        have hk1 : 1 ≤ k := hk
        clear hskip
        go_wp2_with fail
        go_region_held3 (fun w' => w'.cell? ⟨wb, m, none⟩ = some (.int .i64 (k : Int))) (go_keep) (first | (go_at_call 105; refine (power_any k _ hk62).mono ?_; rintro e w' ⟨rfl, rfl⟩) | (go_at_call 112; rw [HR.out]; refine (refNumber_any _ k _ hn0 HN1.out hk1 hk16).mono ?_; rintro e w' ⟨rfl, rfl⟩))
        have HQ := Lib.hid (show wrap64 (x.tdiv (2 ^ k)) = x / 2 ^ k by
          rw [Int.tdiv_eq_ediv_of_nonneg hx0]
          have := Int.ediv_le_self (2 ^ k) hx0
          have := Int.ediv_nonneg hx0 (show (0 : Int) ≤ 2 ^ k from Int.le_of_lt (Int.pow_pos (by decide)))
          exact w64_in _ (by omega))
        go_wp2_with (go_at_call 105; refine (power_any k _ hk62).mono ?_; rintro e w' ⟨rfl, rfl⟩)
        go_roundw
        case rel => exact ⟨m, by omega, by go_num, by rw [hdiv.out], ((Ext.refl _).drew).heap ((heap_set HWO.out).trans (by rw [hstep.out, hE.out, if_pos hk]; unfold vecC; simp [List.map_set])), (HC2.out.setCell (by simp) _).ext2 ((Ext.refl _).drew)⟩
        case measure => simp [intOf]
      · obtain rfl : k = 0 := by omega
        have HS := Lib.hid (show X / 2 ^ ((widL n).drop m).sum = x by rw [hsum.out, Nat.zero_add]; exact HXE.out)
        clear hk
        go_wp2_with fail
        go_roundw
        case rel => exact ⟨m, by omega, by go_num, by rw [HS.out], by rw [hskip.out (by decide)]; exact HWO.out, HC2.out⟩
        case measure => simp [intOf]

theorem refO_unp (n : Nat) (X : Int) (hn : n = 2 ∨ n = 3 ∨ n = 4) : refO (widL n) X 0 = unpV n X := by
  rcases hn with rfl | rfl | rfl <;> rfl
theorem szV_cases (n : Nat) (h1 : 1 ≤ n) (h7 : n ≤ 7) : (n = 1 ∧ szV n = 4) ∨ ((n = 2 ∨ n = 3 ∨ n = 4) ∧ szV n = 2) ∨ (n = 5 ∧ szV n = 1) ∨ (n = 6 ∧ szV n = 1) ∨ (n = 7 ∧ szV n = 2) := by
  have : n = 1 ∨ n = 2 ∨ n = 3 ∨ n = 4 ∨ n = 5 ∨ n = 6 ∨ n = 7 := by omega
  rcases this with rfl | rfl | rfl | rfl | rfl | rfl | rfl <;> decide
theorem refunp_any (n : Nat) (v : Value) (zs : List Int) (w : World) (h1 : 1 ≤ n) (h7 : n ≤ 7) (h : Ints .u8 w v zs) (hl : (zs.length : Int) = szV n) : Calls Try.prog 111 #[.int .i64 (n : Int), v] w fun e w' => e = .returned (.agg (vecC (unpV n (leN zs)))) ∧ Ext w w' := by
  rcases szV_cases n h1 h7 with ⟨rfl, hs⟩ | ⟨hn, hs⟩ | ⟨rfl, hs⟩ | ⟨rfl, hs⟩ | ⟨rfl, hs⟩ <;> rw [hs] at hl
  · match zs, hl with
    | [z, y, x, u], _ => exact refunp1 v z y x u w h
  · match zs, hl with
    | [z, y], _ => rw [← refO_unp n _ hn]; exact refunp_word n v z y w hn h
  · match zs, hl with
    | [z], _ => exact refunp5 v z w h
  · match zs, hl with
    | [z], _ => exact refunp6 v z w h
  · match zs, hl with
    | [z, y], _ => exact refunp7 v z y w h
end Go.Proofs.Ytgdcdkajicgliaa
