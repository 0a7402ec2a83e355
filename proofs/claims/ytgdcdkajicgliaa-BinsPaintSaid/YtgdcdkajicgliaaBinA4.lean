/- Contract of once. Conditions: each theorem's own premises. -/
import Derived.Test.YtgdcdkajicgliaaBinA3
import Derived.Deep.OwnRows
namespace Go.Proofs.Ytgdcdkajicgliaa
open Go.RowKit
set_option linter.unusedVariables false
set_option maxRecDepth 100000
set_option linter.unusedSimpArgs false

theorem info_boolO : (Try.prog.info? 4).map (fun i => (i.zero, i.size, i.bytes)) = some (some (.bool false), 1, 1) := by kernel_rfl
/-- Numbers below n, none twice. -/
def goodL (n : Nat) (l : List Int) : Prop := (∀ z ∈ l, 0 ≤ z ∧ z < n) ∧ l.Nodup
instance (n : Nat) (l : List Int) : Decidable (goodL n l) := inferInstanceAs (Decidable (_ ∧ _))
/-- Does an order have each of n numbers just once? -/
def onceB (l : List Int) (n : Nat) : Bool := decide (goodL n l) && decide (l.length = n)
def metC (n : Nat) (l : List Int) : List Value := (List.range n).map fun (i : Nat) => Value.bool (decide ((i : Int) ∈ l))
theorem metC_at {n : Nat} (l : List Int) {j : Nat} (hj : j < n) : (metC n l)[j]? = some (.bool (decide ((j : Int) ∈ l))) := by
  unfold metC
  rw [List.getElem?_map, List.getElem?_range hj]
  rfl
theorem metC_set {n : Nat} (l : List Int) {j : Nat} (hj : j < n) : (metC n l).set j (.bool true) = metC n (l ++ [(j : Int)]) := by
  apply List.ext_getElem?
  intro i
  by_cases hi : i < n
  · rw [metC_at _ hi, List.getElem?_set]
    split
    · rename_i e
      subst e
      rw [if_pos (by unfold metC; simpa using hj)]
      simp
    · rename_i e
      rw [metC_at _ hi]
      have : ¬ (i : Int) = (j : Int) := by omega
      simp [this]
  · rw [List.getElem?_eq_none (by rw [List.length_set]; unfold metC; simp; omega), List.getElem?_eq_none (by unfold metC; simp; omega)]
theorem metC_nil (n : Nat) : (madeCells #[Value.bool false] n) = (metC n []).toArray := by
  apply Array.ext'
  unfold metC
  refine List.ext_getElem (by simp [madeCells]) fun i h1 h2 => ?_
  simp [madeCells, Nat.mod_one]
theorem good_take_bad {n k : Nat} {zs : List Int} (h : ¬ goodL n (zs.take k)) : ¬ goodL n zs := fun hg => h ⟨fun z hz => hg.1 z (List.mem_of_mem_take hz), hg.2.sublist (List.take_sublist k zs)⟩
theorem once_no {n k : Nat} {zs : List Int} (h : ¬ goodL n (zs.take k)) : onceB zs n = false := by
  unfold onceB
  rw [decide_eq_false (good_take_bad h), Bool.false_and]
set_option maxHeartbeats 4000000 in
theorem once_any (v : Value) (zs : List Int) (n : Nat) (w : World) (h : Ints .i64 w v zs) (hn : n ≤ 1000) (hl : zs.length ≤ 1000000) : Calls Try.prog 80 #[v, .int .i64 n] w fun e w' => e = .returned (.bool (onceB zs n)) ∧ Ext w w' := by
  have HI := Lib.hid h
  obtain ⟨⟨_, av, cap, rfl, _⟩, _⟩ := h
  have i1 : (zs.length : Int) ≤ 1000000 := by omega
  have i2 : (n : Int) ≤ 1000 := by omega
  have m1 : ∀ w : World, (Instr.makeSlice 187 (.int .i64 (n : Int)) (.int .i64 (n : Int))).run Try.prog w = .ok (.slice (some ⟨w.heap.size, 0, none⟩) n n) (w.alloc (.cells (madeCells #[.bool false] n) 4)) := fun w => run_make_row' _ _ _ 1 Try.underlying187 info_boolO rfl _ _ n (by omega) (by omega) w
  go_enter Try.func80, Try.ntmps80
  go_upto_region 2 with fail
  rw [metC_nil]
  obtain ⟨w1, hw1, hm1, hx1⟩ : ∃ w1, w.alloc (.cells (metC n []).toArray 4) = w1 ∧ w1.heap[w.heap.size]? = some (.cells (metC n []).toArray 4 (0, 0)) ∧ Ext w w1 := ⟨_, rfl, heap_alloc_new _ _, (Ext.refl _).alloc _⟩
  rw [hw1]
  obtain ⟨mb, hmb⟩ : ∃ mb, w.heap.size = mb := ⟨_, rfl⟩
  have HMB := Lib.hid hmb
  rw [hmb] at hm1
  rw [hmb]
  have HX1 := Lib.hid hx1
  have HM1 := Lib.hid hm1
  clear hw1 hm1 hx1 hmb m1
  go_wp2_with fail
  go_loopw [12] (fun i wr => ∃ k : Nat, k ≤ zs.length ∧ i = .int .i64 k ∧ Hid (wr.heap[mb]? = some (.cells (metC n (zs.take k)).toArray 4 (0, 0)) ∧ goodL n (zs.take k) ∧ Chg [mb] w1 wr)) (fun i _ => zs.length - (intOf i).toNat)
  case atStart => exact ⟨0, Nat.zero_le _, rfl, Lib.hid ⟨HM1.out, ⟨by simp, by simp⟩, Chg.refl _ _⟩⟩
  case round =>
    rename World => wr
    obtain ⟨k, hk, rfl, HR⟩ := hrel
    have HXR : Hid (Ext w wr) := Lib.hid (HX1.out.chgTrans HR.out.2.2 (by rw [HMB.out]; simp))
    by_cases hlt : k < zs.length
    · have hki : (k : Int) < (zs.length : Int) := by omega
      obtain ⟨b, off, rfl, hb, hcell⟩ := (HI.out.ext HXR.out).pos (by omega)
      obtain ⟨z, hz⟩ : ∃ z, zs[k]? = some z := ⟨_, List.getElem?_eq_getElem hlt⟩
      have ek := hcell k hlt
      rw [List.getD_eq_getElem?_getD, hz] at ek
      have ek : wr.cell? ⟨b, off + k, none⟩ = some (.int .i64 z) := ek
      have HT : Hid (zs.take (k + 1) = zs.take k ++ [z]) := Lib.hid (by rw [List.take_add_one, hz]; rfl)
      clear hcell hz
      by_cases z0 : z < 0
      · have HO : Hid (onceB zs n = false) := Lib.hid (once_no (k := k + 1) (by rw [HT.out]; intro hg; have := hg.1 z (by simp); omega))
        go_wp2_with fail
        go_ret
        exact ⟨by rw [HO.out]; rfl, HXR.out⟩
      · by_cases z1 : (n : Int) ≤ z
        · have HO : Hid (onceB zs n = false) := Lib.hid (once_no (k := k + 1) (by rw [HT.out]; intro hg; have := hg.1 z (by simp); omega))
          go_wp2_with fail
          go_ret
          exact ⟨by rw [HO.out]; rfl, HXR.out⟩
        · obtain ⟨j, rfl⟩ : ∃ j : Nat, z = j := ⟨z.toNat, by omega⟩
          have hjn : j < n := by omega
          have hji : (j : Int) < (n : Int) := by omega
          have hj0 : (0 : Int) ≤ (j : Int) := by omega
          have em : wr.cell? ⟨mb, j, none⟩ = some (.bool (decide ((j : Int) ∈ zs.take k))) := cell_of_heap HR.out.1 (by rw [List.getElem?_toArray]; exact metC_at _ hjn)
          have nm := heap_lt HR.out.1
          by_cases hm : (j : Int) ∈ zs.take k
          · rw [decide_eq_true hm] at em
            have HO : Hid (onceB zs n = false) := Lib.hid (once_no (k := k + 1) (by
              rw [HT.out]
              intro hg
              have := (List.nodup_append.1 hg.2).2.2 (j : Int) hm (j : Int) (by simp)
              exact this rfl))
            clear hm
            go_wp2_with fail
            go_ret
            exact ⟨by rw [HO.out]; rfl, HXR.out⟩
          · rw [decide_eq_false hm] at em
            have fm : wr.frozen? ⟨mb, j, none⟩ = false := free_of_heap HR.out.1
            have hs := heap_set (k := j) (u := .bool true) HR.out.1
            rw [List.setIfInBounds_toArray, metC_set _ hjn, ← HT.out] at hs
            have HS := Lib.hid hs
            have HG : Hid (goodL n (zs.take (k + 1))) := Lib.hid (by
              rw [HT.out]
              refine ⟨fun y hy => ?_, List.nodup_append.2 ⟨HR.out.2.1.2, by simp, fun a ha c hc e => ?_⟩⟩
              · rcases List.mem_append.1 hy with hy | hy
                · exact HR.out.2.1.1 y hy
                · obtain rfl := List.mem_singleton.1 hy; omega
              · obtain rfl := List.mem_singleton.1 hc
                subst e
                exact hm ha)
            have HC : Hid (Chg [mb] w1 (wr.setCell ⟨mb, j, none⟩ (.bool true))) := Lib.hid (HR.out.2.2.setCell (p := ⟨mb, j, none⟩) (by simp) _)
            clear hm hs
            go_wp2_with fail
            go_roundw
            case rel => exact ⟨k + 1, by omega, by go_num, Lib.hid ⟨HS.out, HG.out, HC.out⟩⟩
            case measure => simp [intOf]; omega
    · obtain rfl : k = zs.length := by omega
      have hg := HR.out.2.1
      rw [List.take_length] at hg
      have HO : Hid (onceB zs n = decide (zs.length = n)) := Lib.hid (by unfold onceB; rw [decide_eq_true hg, Bool.true_and])
      clear hg
      go_wp2_with fail
      go_ret
      exact ⟨by rw [HO.out]; first | rfl | (congr 1; simp; done) | (congr 1; congr 1; simp [Bool.beq_eq_decide_eq]; omega), HXR.out⟩
end Go.Proofs.Ytgdcdkajicgliaa
