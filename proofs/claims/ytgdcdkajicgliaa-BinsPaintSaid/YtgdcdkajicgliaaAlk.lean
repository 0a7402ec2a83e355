/- Contract of alike, at planes that hold the same. Conditions: each theorem's own premises. -/
import Derived.Test.YtgdcdkajicgliaaBinP
import Derived.Test.YtgdcdkajicgliaaOpsEq
import Derived.Laws.BytesArg
namespace Go.Proofs.Ytgdcdkajicgliaa
open Go.RowKit
set_option linter.unusedVariables false
set_option maxRecDepth 100000
set_option linter.unusedSimpArgs false

theorem convA {w : World} {v : Value} {zs : List Int} (h : Ints .u8 w v zs) : (convert 48 9 v).run Try.prog w = .ok (.string (strOfNums zs)) w := by
  obtain ⟨a, cap, rfl⟩ : ∃ a cap, v = .slice a zs.length cap := by obtain ⟨⟨_, a, cap, rfl, _⟩, _⟩ := h; exact ⟨a, cap, rfl⟩
  by_cases h0 : 0 < zs.length
  · obtain ⟨b, off, rfl, _, hc⟩ := h.pos h0
    exact run_convert_bytes_arg w 48 5 Try.underlying48 Try.underlying5 b off zs.length cap zs rfl hc 9 Try.underlying9
  · have : zs = [] := List.eq_nil_of_length_eq_zero (by omega)
    subst this
    show (convert 48 9 (.slice a 0 cap)).run Try.prog w = _
    rw [run_convert_bytes_string w 48 9 5 a 0 cap Try.underlying48 Try.underlying5 Try.underlying9]
    cases a with
    | none => simp [Conv.bytesToString, strOfNums]; rfl
    | some x => simp [Conv.bytesToString, strOfNums, loadCells, loadCellsFrom]; rfl
theorem equalA (v u : Value) (zs : List Int) (w : World) (h : Ints .u8 w v zs) (k : Ints .u8 w u zs) : Calls Try.prog 21 #[v, u] w fun e w' => e = .returned (.bool true) ∧ w = w' := by
  have h1 := convA h
  have k1 := convA k
  go_enter Try.func21, Try.ntmps21
  go_wp2
  go_ret
  exact ⟨by simp, rfl⟩
section
attribute [local go_sem ↓] Ld_V4 St_V4 Ld_Ce St_Ce Ld_St eqC
set_option maxHeartbeats 4000000 in
theorem alike_eq (A B : Pb) (P : Pl) (w : World) (ha : PlAt w A P) (hb : PlAt w B P) : Calls Try.prog 49 #[.pointer (some ⟨A.p, 0, none⟩), .pointer (some ⟨B.p, 0, none⟩)] w fun e w' => e = .returned (.bool true) ∧ Ext w w' := by
  have HA := Lib.hid ha
  have HB := Lib.hid hb
  have hw2 : (P.W : Int) ≤ 64 := by have := ha.ok.w2; omega
  have hh2 : (P.H : Int) ≤ 64 := by have := ha.ok.h2; omega
  clear ha hb
  go_enter Try.func49, Try.ntmps49
  go_upto_region 3 with (first | (go_at_call_of 20 A.p; refine (bytesp_any A P _ HA.out).mono ?_; rintro _ w1 ⟨a1, c1, rfl, hi1, _, hx1⟩) | (go_at_call_of 20 B.p; refine (bytesp_any B P _ (HB.out.ext hx1)).mono ?_; rintro _ w2 ⟨a2, c2, rfl, hi2, _, hx2⟩) | (go_at_call 21; refine (equalA _ _ _ _ (hi1.ext hx2) hi2).mono ?_; rintro _ _ ⟨rfl, rfl⟩))
  have HX2 := Lib.hid (hx1.trans hx2)
  clear hx1 hx2 hi1 hi2
  go_wp2_with (go_at_call 22; refine (sides_any A P _ (HA.out.ext HX2.out)).mono ?_; rintro _ w3 ⟨rfl, hx3⟩; have HX3 := Lib.hid (HX2.out.trans hx3))
  clear hx3
  go_loopw [25] (fun i wr => ∃ k : Nat, k ≤ P.H ∧ i = .int .i64 k ∧ Hid (Ext w wr)) (fun i _ => P.H - (intOf i).toNat)
  case atStart => exact ⟨0, Nat.zero_le _, rfl, HX3⟩
  case round =>
    rename World => wr
    obtain ⟨y, hy, rfl, HXR⟩ := hrel
    by_cases hlt : y < P.H
    · have hyi : (y : Int) < (P.H : Int) := by omega
      go_wp2_with fail
      go_loopw [29] (fun i wq => ∃ k : Nat, k ≤ P.W ∧ i = .int .i64 k ∧ Hid (Ext w wq)) (fun i _ => P.W - (intOf i).toNat)
      case atStart => exact ⟨0, Nat.zero_le _, rfl, HXR⟩
      case round =>
        rename World => wq
        obtain ⟨x, hx, rfl, HXQ⟩ := hrel
        by_cases hltx : x < P.W
        · have hxi : (x : Int) < (P.W : Int) := by omega
          obtain ⟨c, hc⟩ : ∃ c, cellV P (y * P.W + x) = c := ⟨_, rfl⟩
          have HCA : Hid (∀ w', Ext w w' → Calls Try.prog 16 #[.pointer (some ⟨A.p, 0, none⟩), .int .i64 x, .int .i64 y] w' fun e w'' => e = .returned (.tuple #[.agg c.C.toArray, .int .i64 0]) ∧ Ext w' w'') := Lib.hid (fun w' x' => by rw [← hc]; exact cellp_in A P x y hltx hlt w' (HA.out.ext x'))
          have HCB : Hid (∀ w', Ext w w' → Calls Try.prog 16 #[.pointer (some ⟨B.p, 0, none⟩), .int .i64 x, .int .i64 y] w' fun e w'' => e = .returned (.tuple #[.agg c.C.toArray, .int .i64 0]) ∧ Ext w' w'') := Lib.hid (fun w' x' => by rw [← hc]; exact cellp_in B P x y hltx hlt w' (HB.out.ext x'))
          clear hc
          go_wp2_with (first | (go_at_call_of 16 A.p; refine (HCA.out _ HXQ.out).mono ?_; rintro _ w5 ⟨rfl, hx5⟩; obtain ⟨w6, hst6, h6, hx6⟩ := newC w5 c; have n6 := heap_lt h6) | (go_at_call_of 16 B.p; refine (HCB.out _ (HXQ.out.trans (hx5.trans hx6))).mono ?_; rintro _ w7 ⟨rfl, hx7⟩; obtain ⟨w8, hst8, h8, hx8⟩ := newC w7 c; have n8 := heap_lt h8; have l8 := CAt.load2 h8; have l6 := CAt.load2 (show CAt w8 w5.heap.size c from (hx7.trans hx8).heap h6); have n68 := heap_lt ((hx7.trans hx8).heap h6)))
          exact ⟨⟨x + 1, by omega, by go_num, Lib.hid (HXQ.out.trans (hx5.trans (hx6.trans (hx7.trans hx8))))⟩, by simp [intOf]; omega⟩
        · obtain rfl : x = P.W := by omega
          go_wp2_with fail
          go_roundw
          case rel => exact ⟨y + 1, by omega, by go_num, HXQ⟩
          case measure => simp [intOf]; omega
    · obtain rfl : y = P.H := by omega
      go_wp2_with fail
      go_ret
      exact ⟨rfl, HXR.out⟩
end
end Go.Proofs.Ytgdcdkajicgliaa
