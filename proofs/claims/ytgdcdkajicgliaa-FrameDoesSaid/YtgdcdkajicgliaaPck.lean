/- The document's Pack: in new memory. Conditions: each theorem's own premises. -/
import Derived.Test.YtgdcdkajicgliaaPix9
import Derived.Test.YtgdcdkajicgliaaV4
import Derived.Deep.RegionHeld3
namespace Go.Proofs.Ytgdcdkajicgliaa
open Go.RowKit
set_option linter.unusedVariables false
set_option linter.unusedSimpArgs false
set_option maxRecDepth 100000

theorem low_new (x : Int) (n : Nat) (w : World) (hn : n ≤ 8) (hx0 : 0 ≤ x) (hx1 : x < 18446744073709551616) :
    Calls Try.prog 106 #[.int .u64 x, .int .i64 n] w fun e w' => ∃ a cap, e = .returned (.slice a n cap) ∧ Ints .u8 w' (.slice a n cap) (lowB x n) ∧ (∀ b, (Value.slice a n cap).ownBlock = some b → w.heap.size ≤ b) ∧ Ext w w' := by
  obtain ⟨i0, hi, hz0, hz1, hz2⟩ := info_parts info_u8
  go_enter Try.func106, Try.ntmps106
  go_wp2_with (at_make; refine wpList_make_full _ rfl _ _ 48 rfl w.heap.size 5 i0 (.int .u8 0) 1 Try.underlying48 hi hz0 hz1 _ _ _ _ n rfl rfl rfl rfl ?b2 ?b3 (Nat.le_refl _) ?_)
  case b2 => rw [hz2]; omega
  case b3 => unfold maxLen; omega
  intro w1 hown hgrow
  have hx1 : Ext w w1 := (Ext.refl w).grown hgrow (by intro k hk; cases hk)
  clear hgrow
  obtain ⟨cur0, hcur0, hsz0⟩ : ∃ cur : Array Value, w1.heap[w.heap.size]? = some (.cells cur 5 (0, 0)) ∧ cur.size = n := by
    rcases hown.2 with ⟨h, _⟩ | ⟨g, cap, cur, he, _, hh, _, _, hs, _⟩
    · cases h
    · simp at he
      obtain ⟨rfl, rfl⟩ := he
      exact ⟨cur, hh, by simpa using hs⟩
  clear hown
  go_wp2
  go_loopw [0, 6] (fun y i wr => ∃ (k : Nat) (cur : Array Value), k ≤ n ∧ i = .int .i64 k ∧ y = .int .u64 (x / 256 ^ k) ∧ wr.heap[w.heap.size]? = some (.cells cur 5 (0, 0)) ∧ cur.size = n ∧ cur.toList.take k = (lowB x k).map (Value.int .u8) ∧ Ext w wr) (fun _ i _ => n - (intOf i).toNat)
  case atStart => exact ⟨0, cur0, Nat.zero_le _, rfl, by simp, hcur0, hsz0, by simp [lowB], hx1⟩
  case round =>
    obtain ⟨k, cur, hk, rfl, rfl, hcur, hsz, htk, hxr⟩ := hrel
    have HCUR := Lib.hid hcur
    have HSZ := Lib.hid hsz
    have HTK := Lib.hid htk
    by_cases hlt : k < n
    · have hc : wr.cell? ⟨w.heap.size, k, none⟩ = some (cur.getD k undef) := by
        have : k < cur.size := by omega
        simp [World.cell?, hcur, Array.getD, this]
      have hf : wr.frozen? ⟨w.heap.size, k, none⟩ = false := by simp [World.frozen?, hcur]
      have hy0 : 0 ≤ x / 256 ^ k := Int.ediv_nonneg hx0 (by have : (0 : Int) < 256 ^ k := Int.pow_pos (by decide); omega)
      have hy1 : x / 256 ^ k ≤ x := Int.ediv_le_self _ hx0
      have hnx : Hid (x / 256 ^ (k + 1) = x / 256 ^ k / 256) := by
        show _ = _
        rw [Int.ediv_ediv_of_nonneg (by have : (0 : Int) < 256 ^ k := Int.pow_pos (by decide); omega), Int.pow_succ]
      have hsn := Lib.hid (lowB_snoc k x)
      clear hcur hsz htk
      generalize hY : x / 256 ^ k = y at *
      clear hY
      go_wp2
      go_roundw
      case rel =>
        refine ⟨k + 1, cur.setIfInBounds k (.int .u8 (y % 256)), by omega, by go_num, by rw [hnx.out], ?_, by simpa using HSZ.out, ?_, ?_⟩
        · have := Array.getElem?_eq_some_iff.1 HCUR.out
          simp [World.setCell, Array.getElem?_modify, HCUR.out]
        · rw [Array.toList_setIfInBounds, set_take _ _ _ (by simpa [HSZ.out] using hlt), HTK.out, hsn.out, List.map_append]
          rfl
        · exact hxr.setCell (by simp) _
      case measure => simp [intOf]; omega
    · have hkn : k = n := by omega
      subst hkn
      clear hcur hsz htk
      go_wp2
      go_ret
      refine ⟨_, _, rfl, ⟨?_, lowB_wf _ _⟩, (fun b hb => by simp [Value.ownBlock] at hb; omega), hxr⟩
      rw [lowB_length]
      refine ⟨by simp [lowB_length], _, _, rfl, Nat.le_refl _, by unfold maxLen; omega, (by intro h; cases h), fun _ => ⟨_, _, rfl, (Array.getElem?_eq_some_iff.1 HCUR.out).1, fun j u hu => ?_⟩⟩
      rw [← HTK.out, List.getElem?_take] at hu
      split at hu
      · simpa [World.cell?, HCUR.out] using hu
      · cases hu


theorem u8_in (x : Int) (h : 0 ≤ x ∧ x < 256) : IntKind.u8.wrap x = x := IntWalk.u8_in x ⟨h.1, by omega⟩
theorem Ints.made {w : World} (zs : List Int) (n : Nat) (hn : zs.length = n) (hm : n ≤ maxLen) (hz : ∀ z ∈ zs, (Lit.int .u8 z).wf = true) : Ints .u8 (w.alloc (.cells (zs.map (Value.int .u8)).toArray 5)) (.slice (some ⟨w.heap.size, 0, none⟩) n n) zs := by
  subst hn
  exact ⟨SlC.new _ _ 1 _ (by simp) hm, hz⟩
set_option maxHeartbeats 4000000 in
theorem refpk1 (c0 c1 c2 c3 : Int) (w : World) (hcb : ∀ x ∈ [c0, c1, c2, c3], -2147483648 ≤ x ∧ x ≤ 2147483647) : Calls Try.prog 71 #[.int .i64 1, .agg #[.int .i32 c0, .int .i32 c1, .int .i32 c2, .int .i32 c3]] w fun e w' => ∃ a cap, e = .returned (.slice a 4 cap) ∧ Ints .u8 w' (.slice a 4 cap) (lowB (packX 1 [c0, c1, c2, c3]) 4) ∧ (∀ b, (Value.slice a 4 cap).ownBlock = some b → w.heap.size ≤ b) ∧ Ext w w' := by
  have h0 := bb c0 8 256 (by decide) (by decide) (by decide)
  have HN0 := Lib.hid (fun w => refBits_any c0 8 w (hcb c0 (by simp)) (by decide) (by decide))
  have h1 := bb c1 8 256 (by decide) (by decide) (by decide)
  have HN1 := Lib.hid (fun w => refBits_any c1 8 w (hcb c1 (by simp)) (by decide) (by decide))
  have h2 := bb c2 8 256 (by decide) (by decide) (by decide)
  have HN2 := Lib.hid (fun w => refBits_any c2 8 w (hcb c2 (by simp)) (by decide) (by decide))
  have h3 := bb c3 8 256 (by decide) (by decide) (by decide)
  have HN3 := Lib.hid (fun w => refBits_any c3 8 w (hcb c3 (by simp)) (by decide) (by decide))
  have HL : lowB (packX 1 [c0, c1, c2, c3]) 4 = [bitsV c0 8, bitsV c1 8, bitsV c2 8, bitsV c3 8] := by
    show lowB (bitsV c0 8 + bitsV c1 8 * 256 + bitsV c2 8 * 65536 + bitsV c3 8 * 16777216) 4 = _
    generalize bitsV c0 8 = v0 at *
    generalize bitsV c1 8 = v1 at *
    generalize bitsV c2 8 = v2 at *
    generalize bitsV c3 8 = v3 at *
    simp only [lowB]
    have e0 : (v0 + v1 * 256 + v2 * 65536 + v3 * 16777216) % 256 = v0 := by omega
    have e1 : ((v0 + v1 * 256 + v2 * 65536 + v3 * 16777216) / 256) % 256 = v1 := by omega
    have e2 : (((v0 + v1 * 256 + v2 * 65536 + v3 * 16777216) / 256) / 256) % 256 = v2 := by omega
    have e3 : ((((v0 + v1 * 256 + v2 * 65536 + v3 * 16777216) / 256) / 256) / 256) % 256 = v3 := by omega
    rw [e0, e1, e2, e3]
  have hw0 := Lib.hid (wf_u8 h0.1 h0.2)
  have HW0 := Lib.hid (u8_in _ h0)
  have hw1 := Lib.hid (wf_u8 h1.1 h1.2)
  have HW1 := Lib.hid (u8_in _ h1)
  have hw2 := Lib.hid (wf_u8 h2.1 h2.2)
  have HW2 := Lib.hid (u8_in _ h2)
  have hw3 := Lib.hid (wf_u8 h3.1 h3.2)
  have HW3 := Lib.hid (u8_in _ h3)
  rw [HL]
  clear HL hcb
  generalize bitsV c0 8 = v0 at *
  generalize bitsV c1 8 = v1 at *
  generalize bitsV c2 8 = v2 at *
  generalize bitsV c3 8 = v3 at *
  go_enter Try.func71, Try.ntmps71
  go_wp2_with (first | (go_at_call_of 72 (Value.int IntKind.i32 c0); refine (HN0.out _).mono ?_; rintro e w' ⟨rfl, rfl⟩) | (go_at_call_of 72 (Value.int IntKind.i32 c1); refine (HN1.out _).mono ?_; rintro e w' ⟨rfl, rfl⟩) | (go_at_call_of 72 (Value.int IntKind.i32 c2); refine (HN2.out _).mono ?_; rintro e w' ⟨rfl, rfl⟩) | (go_at_call_of 72 (Value.int IntKind.i32 c3); refine (HN3.out _).mono ?_; rintro e w' ⟨rfl, rfl⟩))
  go_region_held3 (fun w' => w'.cell? ⟨w.heap.size, 0, none⟩ = some (.int .i32 c0) ∧ w'.cell? ⟨w.heap.size, 1, none⟩ = some (.int .i32 c1) ∧ w'.cell? ⟨w.heap.size, 2, none⟩ = some (.int .i32 c2) ∧ w'.cell? ⟨w.heap.size, 3, none⟩ = some (.int .i32 c3)) (go_keep) (first | (go_at_call_of 72 (Value.int IntKind.i32 c0); refine (HN0.out _).mono ?_; rintro e w' ⟨rfl, rfl⟩) | (go_at_call_of 72 (Value.int IntKind.i32 c1); refine (HN1.out _).mono ?_; rintro e w' ⟨rfl, rfl⟩) | (go_at_call_of 72 (Value.int IntKind.i32 c2); refine (HN2.out _).mono ?_; rintro e w' ⟨rfl, rfl⟩) | (go_at_call_of 72 (Value.int IntKind.i32 c3); refine (HN3.out _).mono ?_; rintro e w' ⟨rfl, rfl⟩))
  go_wp2_with fail
  have hi := Ints.made (w := w.alloc (.cells #[.int .i32 c0, .int .i32 c1, .int .i32 c2, .int .i32 c3] 26)) [v0, v1, v2, v3] 4 rfl (by decide) (by simp; exact ⟨hw0.out, hw1.out, hw2.out, hw3.out⟩)
  rw [World.size_alloc] at hi
  rw [HW0.out, HW1.out, HW2.out, HW3.out]
  go_ret
  exact ⟨_, _, rfl, hi.ext (Ext.refl _).drew, (fun b hb => by simp [Value.ownBlock] at hb; omega), (((Ext.refl w).alloc _).alloc _).drew⟩

def packW (W : List Nat) (c : List Int) : Nat → Int
  | 0 => 0
  | m + 1 => if 0 < W.getD m 0 then packW W c m * 2 ^ (W.getD m 0) + bitsV (c.getD m 0) (W.getD m 0) else packW W c m
theorem packW_bd (W : List Nat) (c : List Int) (h8 : ∀ k ∈ W, k ≤ 8) (m : Nat) (hm : m ≤ W.length) : 0 ≤ packW W c m ∧ packW W c m < 2 ^ (W.take m).sum := by
  induction m with
  | zero => simp [packW]
  | succ m ih =>
    have ih := ih (by omega)
    have ht : (W.take (m + 1)).sum = (W.take m).sum + W.getD m 0 := by
      rw [List.take_add_one, List.sum_append, List.getElem?_eq_getElem (by omega), List.getD_eq_getElem?_getD, List.getElem?_eq_getElem (by omega)]
      simp only [Option.toList_some, List.sum_cons, List.sum_nil, Option.getD_some, Nat.add_zero]
    rw [ht, Int.pow_add]
    have hk : W.getD m 0 ≤ 8 := by rw [List.getD_eq_getElem?_getD, List.getElem?_eq_getElem (by omega)]; exact h8 _ (List.getElem_mem _)
    simp only [packW]
    generalize W.getD m 0 = k at *
    have hp : (0 : Int) < 2 ^ (W.take m).sum := Int.pow_pos (by decide)
    have hp2 : (0 : Int) < 2 ^ k := Int.pow_pos (by decide)
    generalize packW W c m = X at *
    generalize (2 : Int) ^ (W.take m).sum = A at *
    by_cases h0 : 0 < k
    · rw [if_pos h0]
      have hb := bits_bd (c.getD m 0) k h0 (by omega)
      generalize bitsV (c.getD m 0) k = B at *
      generalize (2 : Int) ^ k = P at *
      have h1 : X * P ≤ (A - 1) * P := Int.mul_le_mul_of_nonneg_right (by omega) (by omega)
      have h2 : 0 ≤ X * P := Int.mul_nonneg ih.1 (by omega)
      rw [Int.sub_mul, Int.one_mul] at h1
      omega
    · obtain rfl : k = 0 := by omega
      rw [if_neg (by decide)]
      simpa using ih
theorem packW_eq (n : Nat) (c : List Int) (hn : n = 2 ∨ n = 3 ∨ n = 4) : packW (widL n) c 4 = packX n c := by
  rcases hn with rfl | rfl | rfl
  · show (((0 * 2 ^ 5 + bitsV (c.getD 0 0) 5) * 2 ^ 6 + bitsV (c.getD 1 0) 6) * 2 ^ 5 + bitsV (c.getD 2 0) 5) = bitsV (c.getD 0 0) 5 * 2048 + bitsV (c.getD 1 0) 6 * 32 + bitsV (c.getD 2 0) 5
    omega
  · show ((((0 * 2 ^ 4 + bitsV (c.getD 0 0) 4) * 2 ^ 4 + bitsV (c.getD 1 0) 4) * 2 ^ 4 + bitsV (c.getD 2 0) 4) * 2 ^ 4 + bitsV (c.getD 3 0) 4) = bitsV (c.getD 0 0) 4 * 4096 + bitsV (c.getD 1 0) 4 * 256 + bitsV (c.getD 2 0) 4 * 16 + bitsV (c.getD 3 0) 4
    omega
  · show ((((0 * 2 ^ 5 + bitsV (c.getD 0 0) 5) * 2 ^ 5 + bitsV (c.getD 1 0) 5) * 2 ^ 5 + bitsV (c.getD 2 0) 5) * 2 ^ 1 + bitsV (c.getD 3 0) 1) = bitsV (c.getD 0 0) 5 * 2048 + bitsV (c.getD 1 0) 5 * 64 + bitsV (c.getD 2 0) 5 * 2 + bitsV (c.getD 3 0) 1
    omega

theorem widL_facts (n : Nat) : (widL n).length = 4 ∧ (∀ k ∈ widL n, k ≤ 8) ∧ (widL n).sum ≤ 16 := by unfold widL; split <;> (try split) <;> decide

set_option maxHeartbeats 4000000 in
theorem refpk_word (n : Nat) (c0 c1 c2 c3 : Int) (w : World) (hn : n = 2 ∨ n = 3 ∨ n = 4) (hcb : ∀ x ∈ [c0, c1, c2, c3], -2147483648 ≤ x ∧ x ≤ 2147483647) : Calls Try.prog 71 #[.int .i64 (n : Int), .agg #[.int .i32 c0, .int .i32 c1, .int .i32 c2, .int .i32 c3]] w fun e w' => ∃ a cap, e = .returned (.slice a 2 cap) ∧ Ints .u8 w' (.slice a 2 cap) (lowB (packX n [c0, c1, c2, c3]) 2) ∧ (∀ b, (Value.slice a 2 cap).ownBlock = some b → w.heap.size ≤ b) ∧ Ext w w' := by
  have hwid : Hid (∀ w, Calls Try.prog 104 #[.int .i64 (n : Int)] w fun e w' => e = .returned (.agg (widC n)) ∧ Ext w w') := fun w => widths_any n w
  obtain ⟨hWl, hW8, hW16⟩ := widL_facts n
  obtain ⟨q0, q1, q2, q3, hq⟩ : ∃ q0 q1 q2 q3, widL n = [q0, q1, q2, q3] := by
    match hW : widL n, hWl with
    | [q0, q1, q2, q3], _ => exact ⟨q0, q1, q2, q3, rfl⟩
  have hwc : widC n = #[.int .i64 (q0 : Int), .int .i64 (q1 : Int), .int .i64 (q2 : Int), .int .i64 (q3 : Int)] := by unfold widC; rw [hq]; rfl
  rw [hwc] at hwid
  have n1 : ((n : Int) == 1) = false := by rcases hn with rfl | rfl | rfl <;> rfl
  have n5 : ((n : Int) == 5) = false := by rcases hn with rfl | rfl | rfl <;> rfl
  have n6 : ((n : Int) == 6) = false := by rcases hn with rfl | rfl | rfl <;> rfl
  have n7 : ((n : Int) == 7) = false := by rcases hn with rfl | rfl | rfl <;> rfl
  have HPX := Lib.hid (packW_eq n [c0, c1, c2, c3] hn)
  clear hn hwc
  go_enter Try.func71, Try.ntmps71
  go_wp2_with (go_at_call 104; refine (hwid.out _).mono ?_; rintro e w1 ⟨rfl, hx1⟩)
  obtain ⟨w2, hw2e, hw2, hx2⟩ : ∃ w2, w1.alloc (.cells #[.int .i64 (q0 : Int), .int .i64 (q1 : Int), .int .i64 (q2 : Int), .int .i64 (q3 : Int)] 180) = w2 ∧ w2.heap[w1.heap.size]? = some (.cells #[.int .i64 (q0 : Int), .int .i64 (q1 : Int), .int .i64 (q2 : Int), .int .i64 (q3 : Int)] 180 (0, 0)) ∧ Ext w1 w2 := ⟨_, rfl, heap_alloc_new _ _, (Ext.refl _).alloc _⟩
  rw [hw2e]
  have hcol := (hx1.trans hx2).heap (heap_alloc_new _ _)
  have hx := Lib.hid ((((Ext.refl w).alloc _).trans hx1).trans hx2)
  have hws := heap_lt hcol
  have hws2 := heap_lt hw2
  clear hw2e hx1 hx2 hwid
  generalize w1.heap.size = wb at *
  go_loopw [5, 7] (fun x i wr => ∃ (m : Nat), m ≤ 4 ∧ i = .int .i64 (m : Int) ∧ x = .int .i64 (packW (widL n) [c0, c1, c2, c3] m) ∧ Ext w2 wr) (fun _ i _ => 4 - (intOf i).toNat)
  case atStart => exact ⟨0, Nat.zero_le _, rfl, rfl, Ext.refl _⟩
  case round =>
    obtain ⟨m, hm, rfl, rfl, hxr⟩ := hrel
    have hbd := packW_bd (widL n) [c0, c1, c2, c3] hW8 m (by omega)
    have hX : packW (widL n) [c0, c1, c2, c3] m < 65536 := by
      have h1 : ((widL n).take m).sum ≤ (widL n).sum := by
        have := List.take_append_drop m (widL n)
        rw [← this, List.sum_append]
        simp
      have h2 : (2 : Int) ^ ((widL n).take m).sum ≤ 2 ^ 16 := by exact_mod_cast Nat.pow_le_pow_right (by decide) (Nat.le_trans h1 hW16)
      have h3 : (2 : Int) ^ 16 = 65536 := by decide
      omega
    have hX0 := hbd.1
    clear hbd
    by_cases hlt : m < 4
    · have hml : (m : Int) < 4 := by omega
      have hm0 : (0 : Int) ≤ (m : Int) := by omega
      have hk8 : (widL n).getD m 0 ≤ 8 := by rw [List.getD_eq_getElem?_getD, List.getElem?_eq_getElem (by omega)]; exact hW8 _ (List.getElem_mem _)
      have hstep := Lib.hid (show packW (widL n) [c0, c1, c2, c3] (m + 1) = if 0 < (widL n).getD m 0 then packW (widL n) [c0, c1, c2, c3] m * 2 ^ ((widL n).getD m 0) + bitsV ([c0, c1, c2, c3].getD m 0) ((widL n).getD m 0) else packW (widL n) [c0, c1, c2, c3] m from rfl)
      have e0 : wr.cell? ⟨wb, m, none⟩ = some (.int .i64 (((widL n).getD m 0 : Nat) : Int)) := cell_of_heap (hxr.heap hw2) (by
        rw [hq]
        have : m = 0 ∨ m = 1 ∨ m = 2 ∨ m = 3 := by omega
        rcases this with rfl | rfl | rfl | rfl <;> rfl)
      have e1 : wr.cell? ⟨w.heap.size, m, none⟩ = some (.int .i32 ([c0, c1, c2, c3].getD m 0)) := cell_of_heap (hxr.heap hcol) (by
        have : m = 0 ∨ m = 1 ∨ m = 2 ∨ m = 3 := by omega
        rcases this with rfl | rfl | rfl | rfl <;> rfl)
      have hyb := Lib.hid (hcb ([c0, c1, c2, c3].getD m 0) (by rw [List.getD_eq_getElem?_getD, List.getElem?_eq_getElem (by simpa using hlt)]; exact List.getElem_mem _))
      have hw1s : wb < wr.heap.size := by have := hxr.size; omega
      have hw2s : w.heap.size < wr.heap.size := by have := hxr.size; omega
      have HXR := Lib.hid hxr
      generalize packW (widL n) [c0, c1, c2, c3] m = x at *
      generalize (widL n).getD m 0 = k at *
      generalize [c0, c1, c2, c3].getD m 0 = y at *
      clear hxr hlt
      by_cases hk : 0 < k
      · have hk' : (0 : Int) < (k : Int) := by omega
        have hk62 : k ≤ 62 := by omega
        have hk16 : k ≤ 16 := by omega
        have hk1 : 1 ≤ k := hk
        go_wp2_with fail
        go_region_held3 (fun w' => w'.cell? ⟨wb, m, none⟩ = some (.int .i64 (k : Int)) ∧ w'.cell? ⟨w.heap.size, m, none⟩ = some (.int .i32 y)) (go_keep) (first | (go_at_call 105; refine (power_any k _ hk62).mono ?_; rintro e w' ⟨rfl, rfl⟩) | (go_at_call 72; refine (refBits_any y k _ hyb.out hk1 hk16).mono ?_; rintro e w' ⟨rfl, rfl⟩))
        have HMC := Lib.hid (show IntKind.i64.wrap (IntKind.i64.wrap (x * 2 ^ k) + IntKind.i64.wrap (bitsV y k)) = x * 2 ^ k + bitsV y k by
          have hb := bits_bd y k hk1 hk16
          have hp := pow_bd k hk1 hk16
          have hp8 : (2 : Int) ^ k ≤ 256 := by
            have : (2 : Int) ^ k ≤ 2 ^ 8 := by exact_mod_cast Nat.pow_le_pow_right (by decide) hk8
            simpa using this
          generalize (2 : Int) ^ k = P at *
          have h1 : x * P ≤ 65536 * P := Int.mul_le_mul_of_nonneg_right (by omega) (by omega)
          have h2 : 0 ≤ x * P := Int.mul_nonneg hX0 (by omega)
          generalize x * P = M at *
          rw [IntWalk.i64_in M (by omega), IntWalk.i64_in (bitsV y k) (by omega), IntWalk.i64_in _ (by omega)])
        go_wp2_with fail
        go_roundw
        case rel => exact ⟨m + 1, by omega, by go_num, by rw [hstep.out, if_pos hk, HMC.out], HXR.out.trans (Ext.refl _).drew⟩
        case measure => simp [intOf]; omega
      · obtain rfl : k = 0 := by omega
        clear hk
        go_wp2_with fail
        go_roundw
        case rel => exact ⟨m + 1, by omega, by go_num, by rw [hstep.out, if_neg (by decide)], HXR.out⟩
        case measure => simp [intOf]; omega
    · obtain rfl : m = 4 := by omega
      rw [HPX.out] at hX hX0 ⊢
      have hxw := Lib.hid (hx.out.trans hxr)
      clear hxr hlt hm
      have hlow := Lib.hid (fun w => low_new (packX n [c0, c1, c2, c3]) 2 w (by decide) hX0 (by omega))
      generalize hP : packX n [c0, c1, c2, c3] = P at *
      have HP := Lib.hid hP
      clear hP
      go_wp2_with (go_at_call 106; refine (hlow.out _).mono ?_; rintro e w9 ⟨a9, cap9, rfl, hi9, hb9, hx9⟩)
      go_ret
      exact ⟨_, _, rfl, by rw [HP.out]; exact hi9, (fun b hb => Nat.le_trans hxw.out.size (hb9 b hb)), hxw.out.trans hx9⟩
theorem refpk_any (n : Nat) (c : V4) (w : World) (h1 : 1 ≤ n) (h4 : n ≤ 4) (hcb : ∀ x ∈ c.L, -2147483648 ≤ x ∧ x ≤ 2147483647) : Calls Try.prog 71 #[.int .i64 (n : Int), .agg c.C.toArray] w fun e w' => ∃ a cap, e = .returned (.slice a (szN n) cap) ∧ Ints .u8 w' (.slice a (szN n) cap) (lowB (packX n c.L) (szN n)) ∧ (∀ b, (Value.slice a (szN n) cap).ownBlock = some b → w.heap.size ≤ b) ∧ Ext w w' := by
  have : n = 1 ∨ (n = 2 ∨ n = 3 ∨ n = 4) := by omega
  rcases this with rfl | hn
  · exact refpk1 c.a c.b c.c c.d w hcb
  · have hs : szN n = 2 := by rcases hn with rfl | rfl | rfl <;> rfl
    rw [hs]
    exact refpk_word n c.a c.b c.c c.d w hn hcb
end Go.Proofs.Ytgdcdkajicgliaa
