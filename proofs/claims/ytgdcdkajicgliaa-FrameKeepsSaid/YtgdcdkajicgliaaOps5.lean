/- Contract of the document's Turn. Conditions: each theorem's own premises. -/
import Derived.Test.YtgdcdkajicgliaaOps4
namespace Go.Proofs.Ytgdcdkajicgliaa
open Go.RowKit
set_option linter.unusedVariables false
set_option maxRecDepth 100000

theorem pow8_cases (i : Nat) (h : i < 8) : 2 ^ i < 256 ∧ 2 ^ i * 2 = 2 ^ (i + 1) := by
  have h1 := Nat.pow_lt_pow_right (a := 2) (by decide) h
  exact ⟨h1, by rw [Nat.pow_succ]⟩
theorem pow8_not (i : Nat) (h : i ≤ 8) (h2 : ¬ i < 8) : i = 8 := by omega
set_option maxHeartbeats 4000000 in
set_option maxRecDepth 30000 in
theorem rturn_any (how s r wr : Int) (w : World) : Calls Try.prog 108 #[.int .i64 how, .int .i64 s, .int .i64 r, .int .i64 wr] w fun e w' => e = .returned (.int .i64 (turnV how s r wr)) ∧ w = w' := by
  have HS := Lib.hid (byteN_lt s)
  have HR := Lib.hid (byteN_lt r)
  have HW := Lib.hid (byteN_lt wr)
  have hwb : ∀ K : Nat, K < 256 → bits .and .i64 wr (K : Int) = ((byteN wr &&& K : Nat) : Int) := fun K hK => and8 wr K hK
  have HWB := Lib.hid hwb
  clear hwb
  have HT := Lib.hid (show turnV how s r wr = mixB (nD how (byteN s) (byteN r)) (byteN s) (byteN wr) from rfl)
  have es := and255 s
  have er := and255 r
  generalize hb : byteN s = b at *
  generalize hrr : byteN r = rr at *
  generalize hww : byteN wr = ww at *
  generalize hTV : turnV how s r wr = TV at *
  clear hb hrr hww hTV
  have hb256 := HS.out
  rcases how_cases how with rfl | rfl | rfl | rfl | rfl | rfl | rfl | h
  · skip
    have HNE := Lib.hid (show nD 2 b rr = 0 from by rfl)
    have HN := Lib.hid (show 0 < 256 by have := HS.out; have := HR.out; omega)
    go_enter Try.func108, Try.ntmps108
    go_wp2_with fail
    go_loopw [11, 12] (fun o i wq => ∃ m : Nat, m ≤ 8 ∧ i = .int .i64 ((2 ^ m : Nat) : Int) ∧ o = .int .i64 ((rs (0) b ww m : Nat) : Int) ∧ wq = w) (fun _ i _ => (256 - intOf i).toNat)
    case atStart => exact ⟨0, Nat.zero_le _, rfl, rfl, rfl⟩
    case round =>
      obtain ⟨m, hm, rfl, rfl, rfl⟩ := hrel
      by_cases hlt : m < 8
      · have hp := pow8_cases m hlt
        have hs1 : rs (0) b ww (m + 1) = rs (0) b ww m + (if ww &&& 2 ^ m = 0 then b &&& 2 ^ m else (0) &&& 2 ^ m) := rfl
        have hl0 := rs_lt (0) b ww HN.out HS.out HW.out m hm
        have hl1 := rs_lt (0) b ww HN.out HS.out HW.out (m + 1) (by omega)
        have e1 := HWB.out _ hp.1
        have e2 := and8 (((0 : Nat)) : Int) _ hp.1
        have e3 := and8 (b : Int) _ hp.1
        rw [byteN_nat (0) HN.out] at e2
        rw [byteN_nat b HS.out] at e3
        rw [show (((0 : Nat)) : Int) = 0 by omega] at e2
        have hK0 : 0 < 2 ^ m := Nat.two_pow_pos m
        have hp2 := Lib.hid hp.2
        have hp1 := hp.1
        clear hp
        generalize hG1 : rs (0) b ww (m + 1) = G1 at *
        generalize hG0 : rs (0) b ww m = G0 at *
        have HG1 := Lib.hid hG1
        clear hG1 hG0
        generalize hK : 2 ^ m = K at *
        have HK := Lib.hid hK
        clear hK
        have hlt256 : (K : Int) < 256 := by omega
        by_cases hz : ww &&& K = 0
        · rw [if_pos hz] at hs1
          rw [hz] at e1
          generalize b &&& K = BK at *
          generalize (0) &&& K = NK at *
          go_wp2
          refine ⟨⟨m + 1, by omega, ?_, ?_, by first | rfl | trivial⟩, ?_⟩
          · rw [← hp2.out]; simp
          · rw [HG1.out, hs1]; simp
          · simp only [intOf]; omega
        · rw [if_neg hz] at hs1
          have hz2 : (0 : Int) < ((ww &&& K : Nat) : Int) := by omega
          generalize ww &&& K = WK at *
          generalize b &&& K = BK at *
          generalize (0) &&& K = NK at *
          go_wp2
          refine ⟨⟨m + 1, by omega, ?_, ?_, by first | rfl | trivial⟩, ?_⟩
          · rw [← hp2.out]; simp
          · rw [HG1.out, hs1]; simp
          · simp only [intOf]; omega
      · obtain rfl := pow8_not m hm hlt
        have hfin := Lib.hid ((rs_all (0) b ww HN.out HS.out HW.out).trans ((congrArg (fun x => mixB x b ww) HNE.out.symm).trans HT.out.symm))
        generalize rs (0) b ww 8 = G0 at *
        go_wp2
        go_ret
        first | rfl | exact ⟨rfl, rfl⟩ | exact ⟨by rw [hfin.out]; rfl, rfl⟩
  · skip
    have HNE := Lib.hid (show nD 3 b rr = rr from by rfl)
    have HN := Lib.hid (show rr < 256 by have := HS.out; have := HR.out; omega)
    go_enter Try.func108, Try.ntmps108
    go_wp2_with fail
    go_loopw [11, 12] (fun o i wq => ∃ m : Nat, m ≤ 8 ∧ i = .int .i64 ((2 ^ m : Nat) : Int) ∧ o = .int .i64 ((rs (rr) b ww m : Nat) : Int) ∧ wq = w) (fun _ i _ => (256 - intOf i).toNat)
    case atStart => exact ⟨0, Nat.zero_le _, rfl, rfl, rfl⟩
    case round =>
      obtain ⟨m, hm, rfl, rfl, rfl⟩ := hrel
      by_cases hlt : m < 8
      · have hp := pow8_cases m hlt
        have hs1 : rs (rr) b ww (m + 1) = rs (rr) b ww m + (if ww &&& 2 ^ m = 0 then b &&& 2 ^ m else (rr) &&& 2 ^ m) := rfl
        have hl0 := rs_lt (rr) b ww HN.out HS.out HW.out m hm
        have hl1 := rs_lt (rr) b ww HN.out HS.out HW.out (m + 1) (by omega)
        have e1 := HWB.out _ hp.1
        have e2 := and8 (((rr : Nat)) : Int) _ hp.1
        have e3 := and8 (b : Int) _ hp.1
        rw [byteN_nat (rr) HN.out] at e2
        rw [byteN_nat b HS.out] at e3
        rw [show (((rr : Nat)) : Int) = (rr : Int) by omega] at e2
        have hK0 : 0 < 2 ^ m := Nat.two_pow_pos m
        have hp2 := Lib.hid hp.2
        have hp1 := hp.1
        clear hp
        generalize hG1 : rs (rr) b ww (m + 1) = G1 at *
        generalize hG0 : rs (rr) b ww m = G0 at *
        have HG1 := Lib.hid hG1
        clear hG1 hG0
        generalize hK : 2 ^ m = K at *
        have HK := Lib.hid hK
        clear hK
        have hlt256 : (K : Int) < 256 := by omega
        by_cases hz : ww &&& K = 0
        · rw [if_pos hz] at hs1
          rw [hz] at e1
          generalize b &&& K = BK at *
          generalize (rr) &&& K = NK at *
          go_wp2
          refine ⟨⟨m + 1, by omega, ?_, ?_, by first | rfl | trivial⟩, ?_⟩
          · rw [← hp2.out]; simp
          · rw [HG1.out, hs1]; simp
          · simp only [intOf]; omega
        · rw [if_neg hz] at hs1
          have hz2 : (0 : Int) < ((ww &&& K : Nat) : Int) := by omega
          generalize ww &&& K = WK at *
          generalize b &&& K = BK at *
          generalize (rr) &&& K = NK at *
          go_wp2
          refine ⟨⟨m + 1, by omega, ?_, ?_, by first | rfl | trivial⟩, ?_⟩
          · rw [← hp2.out]; simp
          · rw [HG1.out, hs1]; simp
          · simp only [intOf]; omega
      · obtain rfl := pow8_not m hm hlt
        have hfin := Lib.hid ((rs_all (rr) b ww HN.out HS.out HW.out).trans ((congrArg (fun x => mixB x b ww) HNE.out.symm).trans HT.out.symm))
        generalize rs (rr) b ww 8 = G0 at *
        go_wp2
        go_ret
        first | rfl | exact ⟨rfl, rfl⟩ | exact ⟨by rw [hfin.out]; rfl, rfl⟩
  · by_cases hb5 : b < 255
    · skip
      have HNE := Lib.hid (show nD 4 b rr = b + 1 from by have := HS.out; rw [show nD 4 b rr = if b < 255 then b + 1 else 255 from rfl]; split <;> omega)
      have HN := Lib.hid (show b + 1 < 256 by have := HS.out; have := HR.out; omega)
      go_enter Try.func108, Try.ntmps108
      go_wp2_with fail
      go_loopw [11, 12] (fun o i wq => ∃ m : Nat, m ≤ 8 ∧ i = .int .i64 ((2 ^ m : Nat) : Int) ∧ o = .int .i64 ((rs (b + 1) b ww m : Nat) : Int) ∧ wq = w) (fun _ i _ => (256 - intOf i).toNat)
      case atStart => exact ⟨0, Nat.zero_le _, rfl, rfl, rfl⟩
      case round =>
        obtain ⟨m, hm, rfl, rfl, rfl⟩ := hrel
        by_cases hlt : m < 8
        · have hp := pow8_cases m hlt
          have hs1 : rs (b + 1) b ww (m + 1) = rs (b + 1) b ww m + (if ww &&& 2 ^ m = 0 then b &&& 2 ^ m else (b + 1) &&& 2 ^ m) := rfl
          have hl0 := rs_lt (b + 1) b ww HN.out HS.out HW.out m hm
          have hl1 := rs_lt (b + 1) b ww HN.out HS.out HW.out (m + 1) (by omega)
          have e1 := HWB.out _ hp.1
          have e2 := and8 (((b + 1 : Nat)) : Int) _ hp.1
          have e3 := and8 (b : Int) _ hp.1
          rw [byteN_nat (b + 1) HN.out] at e2
          rw [byteN_nat b HS.out] at e3
          rw [show (((b + 1 : Nat)) : Int) = ((b : Int) + 1) by omega] at e2
          have hK0 : 0 < 2 ^ m := Nat.two_pow_pos m
          have hp2 := Lib.hid hp.2
          have hp1 := hp.1
          clear hp
          generalize hG1 : rs (b + 1) b ww (m + 1) = G1 at *
          generalize hG0 : rs (b + 1) b ww m = G0 at *
          have HG1 := Lib.hid hG1
          clear hG1 hG0
          generalize hK : 2 ^ m = K at *
          have HK := Lib.hid hK
          clear hK
          have hlt256 : (K : Int) < 256 := by omega
          by_cases hz : ww &&& K = 0
          · rw [if_pos hz] at hs1
            rw [hz] at e1
            generalize b &&& K = BK at *
            generalize (b + 1) &&& K = NK at *
            go_wp2
            refine ⟨⟨m + 1, by omega, ?_, ?_, by first | rfl | trivial⟩, ?_⟩
            · rw [← hp2.out]; simp
            · rw [HG1.out, hs1]; simp
            · simp only [intOf]; omega
          · rw [if_neg hz] at hs1
            have hz2 : (0 : Int) < ((ww &&& K : Nat) : Int) := by omega
            generalize ww &&& K = WK at *
            generalize b &&& K = BK at *
            generalize (b + 1) &&& K = NK at *
            go_wp2
            refine ⟨⟨m + 1, by omega, ?_, ?_, by first | rfl | trivial⟩, ?_⟩
            · rw [← hp2.out]; simp
            · rw [HG1.out, hs1]; simp
            · simp only [intOf]; omega
        · obtain rfl := pow8_not m hm hlt
          have hfin := Lib.hid ((rs_all (b + 1) b ww HN.out HS.out HW.out).trans ((congrArg (fun x => mixB x b ww) HNE.out.symm).trans HT.out.symm))
          generalize rs (b + 1) b ww 8 = G0 at *
          go_wp2
          go_ret
          first | rfl | exact ⟨rfl, rfl⟩ | exact ⟨by rw [hfin.out]; rfl, rfl⟩
    · skip
      have HNE := Lib.hid (show nD 4 b rr = b from by have := HS.out; rw [show nD 4 b rr = if b < 255 then b + 1 else 255 from rfl]; split <;> omega)
      have HN := Lib.hid (show b < 256 by have := HS.out; have := HR.out; omega)
      go_enter Try.func108, Try.ntmps108
      go_wp2_with fail
      go_loopw [11, 12] (fun o i wq => ∃ m : Nat, m ≤ 8 ∧ i = .int .i64 ((2 ^ m : Nat) : Int) ∧ o = .int .i64 ((rs (b) b ww m : Nat) : Int) ∧ wq = w) (fun _ i _ => (256 - intOf i).toNat)
      case atStart => exact ⟨0, Nat.zero_le _, rfl, rfl, rfl⟩
      case round =>
        obtain ⟨m, hm, rfl, rfl, rfl⟩ := hrel
        by_cases hlt : m < 8
        · have hp := pow8_cases m hlt
          have hs1 : rs (b) b ww (m + 1) = rs (b) b ww m + (if ww &&& 2 ^ m = 0 then b &&& 2 ^ m else (b) &&& 2 ^ m) := rfl
          have hl0 := rs_lt (b) b ww HN.out HS.out HW.out m hm
          have hl1 := rs_lt (b) b ww HN.out HS.out HW.out (m + 1) (by omega)
          have e1 := HWB.out _ hp.1
          have e2 := and8 (((b : Nat)) : Int) _ hp.1
          have e3 := and8 (b : Int) _ hp.1
          rw [byteN_nat (b) HN.out] at e2
          rw [byteN_nat b HS.out] at e3
          rw [show (((b : Nat)) : Int) = (b : Int) by omega] at e2
          have hK0 : 0 < 2 ^ m := Nat.two_pow_pos m
          have hp2 := Lib.hid hp.2
          have hp1 := hp.1
          clear hp
          generalize hG1 : rs (b) b ww (m + 1) = G1 at *
          generalize hG0 : rs (b) b ww m = G0 at *
          have HG1 := Lib.hid hG1
          clear hG1 hG0
          generalize hK : 2 ^ m = K at *
          have HK := Lib.hid hK
          clear hK
          have hlt256 : (K : Int) < 256 := by omega
          by_cases hz : ww &&& K = 0
          · rw [if_pos hz] at hs1
            rw [hz] at e1
            generalize b &&& K = BK at *
            generalize (b) &&& K = NK at *
            go_wp2
            refine ⟨⟨m + 1, by omega, ?_, ?_, by first | rfl | trivial⟩, ?_⟩
            · rw [← hp2.out]; simp
            · rw [HG1.out, hs1]; simp
            · simp only [intOf]; omega
          · rw [if_neg hz] at hs1
            have hz2 : (0 : Int) < ((ww &&& K : Nat) : Int) := by omega
            generalize ww &&& K = WK at *
            generalize b &&& K = BK at *
            generalize (b) &&& K = NK at *
            go_wp2
            refine ⟨⟨m + 1, by omega, ?_, ?_, by first | rfl | trivial⟩, ?_⟩
            · rw [← hp2.out]; simp
            · rw [HG1.out, hs1]; simp
            · simp only [intOf]; omega
        · obtain rfl := pow8_not m hm hlt
          have hfin := Lib.hid ((rs_all (b) b ww HN.out HS.out HW.out).trans ((congrArg (fun x => mixB x b ww) HNE.out.symm).trans HT.out.symm))
          generalize rs (b) b ww 8 = G0 at *
          go_wp2
          go_ret
          first | rfl | exact ⟨rfl, rfl⟩ | exact ⟨by rw [hfin.out]; rfl, rfl⟩
  · skip
    have HNE := Lib.hid (show nD 5 b rr = (b + 1) % 256 from by rfl)
    have HN := Lib.hid (show (b + 1) % 256 < 256 by have := HS.out; have := HR.out; omega)
    go_enter Try.func108, Try.ntmps108
    go_wp2_with fail
    go_loopw [11, 12] (fun o i wq => ∃ m : Nat, m ≤ 8 ∧ i = .int .i64 ((2 ^ m : Nat) : Int) ∧ o = .int .i64 ((rs ((b + 1) % 256) b ww m : Nat) : Int) ∧ wq = w) (fun _ i _ => (256 - intOf i).toNat)
    case atStart => exact ⟨0, Nat.zero_le _, rfl, rfl, rfl⟩
    case round =>
      obtain ⟨m, hm, rfl, rfl, rfl⟩ := hrel
      by_cases hlt : m < 8
      · have hp := pow8_cases m hlt
        have hs1 : rs ((b + 1) % 256) b ww (m + 1) = rs ((b + 1) % 256) b ww m + (if ww &&& 2 ^ m = 0 then b &&& 2 ^ m else ((b + 1) % 256) &&& 2 ^ m) := rfl
        have hl0 := rs_lt ((b + 1) % 256) b ww HN.out HS.out HW.out m hm
        have hl1 := rs_lt ((b + 1) % 256) b ww HN.out HS.out HW.out (m + 1) (by omega)
        have e1 := HWB.out _ hp.1
        have e2 := and8 ((((b + 1) % 256 : Nat)) : Int) _ hp.1
        have e3 := and8 (b : Int) _ hp.1
        rw [byteN_nat ((b + 1) % 256) HN.out] at e2
        rw [byteN_nat b HS.out] at e3
        rw [show ((((b + 1) % 256 : Nat)) : Int) = (((b : Int) + 1) % 256) by omega] at e2
        have hK0 : 0 < 2 ^ m := Nat.two_pow_pos m
        have hp2 := Lib.hid hp.2
        have hp1 := hp.1
        clear hp
        generalize hG1 : rs ((b + 1) % 256) b ww (m + 1) = G1 at *
        generalize hG0 : rs ((b + 1) % 256) b ww m = G0 at *
        have HG1 := Lib.hid hG1
        clear hG1 hG0
        generalize hK : 2 ^ m = K at *
        have HK := Lib.hid hK
        clear hK
        have hlt256 : (K : Int) < 256 := by omega
        by_cases hz : ww &&& K = 0
        · rw [if_pos hz] at hs1
          rw [hz] at e1
          generalize b &&& K = BK at *
          generalize ((b + 1) % 256) &&& K = NK at *
          go_wp2
          refine ⟨⟨m + 1, by omega, ?_, ?_, by first | rfl | trivial⟩, ?_⟩
          · rw [← hp2.out]; simp
          · rw [HG1.out, hs1]; simp
          · simp only [intOf]; omega
        · rw [if_neg hz] at hs1
          have hz2 : (0 : Int) < ((ww &&& K : Nat) : Int) := by omega
          generalize ww &&& K = WK at *
          generalize b &&& K = BK at *
          generalize ((b + 1) % 256) &&& K = NK at *
          go_wp2
          refine ⟨⟨m + 1, by omega, ?_, ?_, by first | rfl | trivial⟩, ?_⟩
          · rw [← hp2.out]; simp
          · rw [HG1.out, hs1]; simp
          · simp only [intOf]; omega
      · obtain rfl := pow8_not m hm hlt
        have hfin := Lib.hid ((rs_all ((b + 1) % 256) b ww HN.out HS.out HW.out).trans ((congrArg (fun x => mixB x b ww) HNE.out.symm).trans HT.out.symm))
        generalize rs ((b + 1) % 256) b ww 8 = G0 at *
        go_wp2
        go_ret
        first | rfl | exact ⟨rfl, rfl⟩ | exact ⟨by rw [hfin.out]; rfl, rfl⟩
  · by_cases hb5 : 0 < b
    · skip
      have HNE := Lib.hid (show nD 6 b rr = b - 1 from by have := HS.out; show b - 1 = _; omega)
      have HN := Lib.hid (show b - 1 < 256 by have := HS.out; have := HR.out; omega)
      go_enter Try.func108, Try.ntmps108
      go_wp2_with fail
      go_loopw [11, 12] (fun o i wq => ∃ m : Nat, m ≤ 8 ∧ i = .int .i64 ((2 ^ m : Nat) : Int) ∧ o = .int .i64 ((rs (b - 1) b ww m : Nat) : Int) ∧ wq = w) (fun _ i _ => (256 - intOf i).toNat)
      case atStart => exact ⟨0, Nat.zero_le _, rfl, rfl, rfl⟩
      case round =>
        obtain ⟨m, hm, rfl, rfl, rfl⟩ := hrel
        by_cases hlt : m < 8
        · have hp := pow8_cases m hlt
          have hs1 : rs (b - 1) b ww (m + 1) = rs (b - 1) b ww m + (if ww &&& 2 ^ m = 0 then b &&& 2 ^ m else (b - 1) &&& 2 ^ m) := rfl
          have hl0 := rs_lt (b - 1) b ww HN.out HS.out HW.out m hm
          have hl1 := rs_lt (b - 1) b ww HN.out HS.out HW.out (m + 1) (by omega)
          have e1 := HWB.out _ hp.1
          have e2 := and8 (((b - 1 : Nat)) : Int) _ hp.1
          have e3 := and8 (b : Int) _ hp.1
          rw [byteN_nat (b - 1) HN.out] at e2
          rw [byteN_nat b HS.out] at e3
          rw [show (((b - 1 : Nat)) : Int) = ((b : Int) - 1) by omega] at e2
          have hK0 : 0 < 2 ^ m := Nat.two_pow_pos m
          have hp2 := Lib.hid hp.2
          have hp1 := hp.1
          clear hp
          generalize hG1 : rs (b - 1) b ww (m + 1) = G1 at *
          generalize hG0 : rs (b - 1) b ww m = G0 at *
          have HG1 := Lib.hid hG1
          clear hG1 hG0
          generalize hK : 2 ^ m = K at *
          have HK := Lib.hid hK
          clear hK
          have hlt256 : (K : Int) < 256 := by omega
          by_cases hz : ww &&& K = 0
          · rw [if_pos hz] at hs1
            rw [hz] at e1
            generalize b &&& K = BK at *
            generalize (b - 1) &&& K = NK at *
            go_wp2
            refine ⟨⟨m + 1, by omega, ?_, ?_, by first | rfl | trivial⟩, ?_⟩
            · rw [← hp2.out]; simp
            · rw [HG1.out, hs1]; simp
            · simp only [intOf]; omega
          · rw [if_neg hz] at hs1
            have hz2 : (0 : Int) < ((ww &&& K : Nat) : Int) := by omega
            generalize ww &&& K = WK at *
            generalize b &&& K = BK at *
            generalize (b - 1) &&& K = NK at *
            go_wp2
            refine ⟨⟨m + 1, by omega, ?_, ?_, by first | rfl | trivial⟩, ?_⟩
            · rw [← hp2.out]; simp
            · rw [HG1.out, hs1]; simp
            · simp only [intOf]; omega
        · obtain rfl := pow8_not m hm hlt
          have hfin := Lib.hid ((rs_all (b - 1) b ww HN.out HS.out HW.out).trans ((congrArg (fun x => mixB x b ww) HNE.out.symm).trans HT.out.symm))
          generalize rs (b - 1) b ww 8 = G0 at *
          go_wp2
          go_ret
          first | rfl | exact ⟨rfl, rfl⟩ | exact ⟨by rw [hfin.out]; rfl, rfl⟩
    · skip
      have HNE := Lib.hid (show nD 6 b rr = b from by have := HS.out; show b - 1 = _; omega)
      have HN := Lib.hid (show b < 256 by have := HS.out; have := HR.out; omega)
      go_enter Try.func108, Try.ntmps108
      go_wp2_with fail
      go_loopw [11, 12] (fun o i wq => ∃ m : Nat, m ≤ 8 ∧ i = .int .i64 ((2 ^ m : Nat) : Int) ∧ o = .int .i64 ((rs (b) b ww m : Nat) : Int) ∧ wq = w) (fun _ i _ => (256 - intOf i).toNat)
      case atStart => exact ⟨0, Nat.zero_le _, rfl, rfl, rfl⟩
      case round =>
        obtain ⟨m, hm, rfl, rfl, rfl⟩ := hrel
        by_cases hlt : m < 8
        · have hp := pow8_cases m hlt
          have hs1 : rs (b) b ww (m + 1) = rs (b) b ww m + (if ww &&& 2 ^ m = 0 then b &&& 2 ^ m else (b) &&& 2 ^ m) := rfl
          have hl0 := rs_lt (b) b ww HN.out HS.out HW.out m hm
          have hl1 := rs_lt (b) b ww HN.out HS.out HW.out (m + 1) (by omega)
          have e1 := HWB.out _ hp.1
          have e2 := and8 (((b : Nat)) : Int) _ hp.1
          have e3 := and8 (b : Int) _ hp.1
          rw [byteN_nat (b) HN.out] at e2
          rw [byteN_nat b HS.out] at e3
          rw [show (((b : Nat)) : Int) = (b : Int) by omega] at e2
          have hK0 : 0 < 2 ^ m := Nat.two_pow_pos m
          have hp2 := Lib.hid hp.2
          have hp1 := hp.1
          clear hp
          generalize hG1 : rs (b) b ww (m + 1) = G1 at *
          generalize hG0 : rs (b) b ww m = G0 at *
          have HG1 := Lib.hid hG1
          clear hG1 hG0
          generalize hK : 2 ^ m = K at *
          have HK := Lib.hid hK
          clear hK
          have hlt256 : (K : Int) < 256 := by omega
          by_cases hz : ww &&& K = 0
          · rw [if_pos hz] at hs1
            rw [hz] at e1
            generalize b &&& K = BK at *
            generalize (b) &&& K = NK at *
            go_wp2
            refine ⟨⟨m + 1, by omega, ?_, ?_, by first | rfl | trivial⟩, ?_⟩
            · rw [← hp2.out]; simp
            · rw [HG1.out, hs1]; simp
            · simp only [intOf]; omega
          · rw [if_neg hz] at hs1
            have hz2 : (0 : Int) < ((ww &&& K : Nat) : Int) := by omega
            generalize ww &&& K = WK at *
            generalize b &&& K = BK at *
            generalize (b) &&& K = NK at *
            go_wp2
            refine ⟨⟨m + 1, by omega, ?_, ?_, by first | rfl | trivial⟩, ?_⟩
            · rw [← hp2.out]; simp
            · rw [HG1.out, hs1]; simp
            · simp only [intOf]; omega
        · obtain rfl := pow8_not m hm hlt
          have hfin := Lib.hid ((rs_all (b) b ww HN.out HS.out HW.out).trans ((congrArg (fun x => mixB x b ww) HNE.out.symm).trans HT.out.symm))
          generalize rs (b) b ww 8 = G0 at *
          go_wp2
          go_ret
          first | rfl | exact ⟨rfl, rfl⟩ | exact ⟨by rw [hfin.out]; rfl, rfl⟩
  · skip
    have HNE := Lib.hid (show nD 7 b rr = (b + 255) % 256 from by rfl)
    have HN := Lib.hid (show (b + 255) % 256 < 256 by have := HS.out; have := HR.out; omega)
    go_enter Try.func108, Try.ntmps108
    go_wp2_with fail
    go_loopw [11, 12] (fun o i wq => ∃ m : Nat, m ≤ 8 ∧ i = .int .i64 ((2 ^ m : Nat) : Int) ∧ o = .int .i64 ((rs ((b + 255) % 256) b ww m : Nat) : Int) ∧ wq = w) (fun _ i _ => (256 - intOf i).toNat)
    case atStart => exact ⟨0, Nat.zero_le _, rfl, rfl, rfl⟩
    case round =>
      obtain ⟨m, hm, rfl, rfl, rfl⟩ := hrel
      by_cases hlt : m < 8
      · have hp := pow8_cases m hlt
        have hs1 : rs ((b + 255) % 256) b ww (m + 1) = rs ((b + 255) % 256) b ww m + (if ww &&& 2 ^ m = 0 then b &&& 2 ^ m else ((b + 255) % 256) &&& 2 ^ m) := rfl
        have hl0 := rs_lt ((b + 255) % 256) b ww HN.out HS.out HW.out m hm
        have hl1 := rs_lt ((b + 255) % 256) b ww HN.out HS.out HW.out (m + 1) (by omega)
        have e1 := HWB.out _ hp.1
        have e2 := and8 ((((b + 255) % 256 : Nat)) : Int) _ hp.1
        have e3 := and8 (b : Int) _ hp.1
        rw [byteN_nat ((b + 255) % 256) HN.out] at e2
        rw [byteN_nat b HS.out] at e3
        rw [show ((((b + 255) % 256 : Nat)) : Int) = (((b : Int) + 255) % 256) by omega] at e2
        have hK0 : 0 < 2 ^ m := Nat.two_pow_pos m
        have hp2 := Lib.hid hp.2
        have hp1 := hp.1
        clear hp
        generalize hG1 : rs ((b + 255) % 256) b ww (m + 1) = G1 at *
        generalize hG0 : rs ((b + 255) % 256) b ww m = G0 at *
        have HG1 := Lib.hid hG1
        clear hG1 hG0
        generalize hK : 2 ^ m = K at *
        have HK := Lib.hid hK
        clear hK
        have hlt256 : (K : Int) < 256 := by omega
        by_cases hz : ww &&& K = 0
        · rw [if_pos hz] at hs1
          rw [hz] at e1
          generalize b &&& K = BK at *
          generalize ((b + 255) % 256) &&& K = NK at *
          go_wp2
          refine ⟨⟨m + 1, by omega, ?_, ?_, by first | rfl | trivial⟩, ?_⟩
          · rw [← hp2.out]; simp
          · rw [HG1.out, hs1]; simp
          · simp only [intOf]; omega
        · rw [if_neg hz] at hs1
          have hz2 : (0 : Int) < ((ww &&& K : Nat) : Int) := by omega
          generalize ww &&& K = WK at *
          generalize b &&& K = BK at *
          generalize ((b + 255) % 256) &&& K = NK at *
          go_wp2
          refine ⟨⟨m + 1, by omega, ?_, ?_, by first | rfl | trivial⟩, ?_⟩
          · rw [← hp2.out]; simp
          · rw [HG1.out, hs1]; simp
          · simp only [intOf]; omega
      · obtain rfl := pow8_not m hm hlt
        have hfin := Lib.hid ((rs_all ((b + 255) % 256) b ww HN.out HS.out HW.out).trans ((congrArg (fun x => mixB x b ww) HNE.out.symm).trans HT.out.symm))
        generalize rs ((b + 255) % 256) b ww 8 = G0 at *
        go_wp2
        go_ret
        first | rfl | exact ⟨rfl, rfl⟩ | exact ⟨by rw [hfin.out]; rfl, rfl⟩
  · skip
    have HNE := Lib.hid (show nD 8 b rr = 255 - b from by rfl)
    have HN := Lib.hid (show 255 - b < 256 by have := HS.out; have := HR.out; omega)
    go_enter Try.func108, Try.ntmps108
    go_wp2_with fail
    go_loopw [11, 12] (fun o i wq => ∃ m : Nat, m ≤ 8 ∧ i = .int .i64 ((2 ^ m : Nat) : Int) ∧ o = .int .i64 ((rs (255 - b) b ww m : Nat) : Int) ∧ wq = w) (fun _ i _ => (256 - intOf i).toNat)
    case atStart => exact ⟨0, Nat.zero_le _, rfl, rfl, rfl⟩
    case round =>
      obtain ⟨m, hm, rfl, rfl, rfl⟩ := hrel
      by_cases hlt : m < 8
      · have hp := pow8_cases m hlt
        have hs1 : rs (255 - b) b ww (m + 1) = rs (255 - b) b ww m + (if ww &&& 2 ^ m = 0 then b &&& 2 ^ m else (255 - b) &&& 2 ^ m) := rfl
        have hl0 := rs_lt (255 - b) b ww HN.out HS.out HW.out m hm
        have hl1 := rs_lt (255 - b) b ww HN.out HS.out HW.out (m + 1) (by omega)
        have e1 := HWB.out _ hp.1
        have e2 := and8 (((255 - b : Nat)) : Int) _ hp.1
        have e3 := and8 (b : Int) _ hp.1
        rw [byteN_nat (255 - b) HN.out] at e2
        rw [byteN_nat b HS.out] at e3
        rw [show (((255 - b : Nat)) : Int) = (255 - (b : Int)) by omega] at e2
        have hK0 : 0 < 2 ^ m := Nat.two_pow_pos m
        have hp2 := Lib.hid hp.2
        have hp1 := hp.1
        clear hp
        generalize hG1 : rs (255 - b) b ww (m + 1) = G1 at *
        generalize hG0 : rs (255 - b) b ww m = G0 at *
        have HG1 := Lib.hid hG1
        clear hG1 hG0
        generalize hK : 2 ^ m = K at *
        have HK := Lib.hid hK
        clear hK
        have hlt256 : (K : Int) < 256 := by omega
        by_cases hz : ww &&& K = 0
        · rw [if_pos hz] at hs1
          rw [hz] at e1
          generalize b &&& K = BK at *
          generalize (255 - b) &&& K = NK at *
          go_wp2
          refine ⟨⟨m + 1, by omega, ?_, ?_, by first | rfl | trivial⟩, ?_⟩
          · rw [← hp2.out]; simp
          · rw [HG1.out, hs1]; simp
          · simp only [intOf]; omega
        · rw [if_neg hz] at hs1
          have hz2 : (0 : Int) < ((ww &&& K : Nat) : Int) := by omega
          generalize ww &&& K = WK at *
          generalize b &&& K = BK at *
          generalize (255 - b) &&& K = NK at *
          go_wp2
          refine ⟨⟨m + 1, by omega, ?_, ?_, by first | rfl | trivial⟩, ?_⟩
          · rw [← hp2.out]; simp
          · rw [HG1.out, hs1]; simp
          · simp only [intOf]; omega
      · obtain rfl := pow8_not m hm hlt
        have hfin := Lib.hid ((rs_all (255 - b) b ww HN.out HS.out HW.out).trans ((congrArg (fun x => mixB x b ww) HNE.out.symm).trans HT.out.symm))
        generalize rs (255 - b) b ww 8 = G0 at *
        go_wp2
        go_ret
        first | rfl | exact ⟨rfl, rfl⟩ | exact ⟨by rw [hfin.out]; rfl, rfl⟩
  · skip
    have HNE := Lib.hid (show nD how b rr = b from by exact nD_other _ _ _ h)
    have HN := Lib.hid (show b < 256 by have := HS.out; have := HR.out; omega)
    obtain ⟨h2, h3, h4, h5, h6, h7, h8⟩ := h
    go_enter Try.func108, Try.ntmps108
    go_wp2_with fail
    go_loopw [11, 12] (fun o i wq => ∃ m : Nat, m ≤ 8 ∧ i = .int .i64 ((2 ^ m : Nat) : Int) ∧ o = .int .i64 ((rs (b) b ww m : Nat) : Int) ∧ wq = w) (fun _ i _ => (256 - intOf i).toNat)
    case atStart => exact ⟨0, Nat.zero_le _, rfl, rfl, rfl⟩
    case round =>
      obtain ⟨m, hm, rfl, rfl, rfl⟩ := hrel
      by_cases hlt : m < 8
      · have hp := pow8_cases m hlt
        have hs1 : rs (b) b ww (m + 1) = rs (b) b ww m + (if ww &&& 2 ^ m = 0 then b &&& 2 ^ m else (b) &&& 2 ^ m) := rfl
        have hl0 := rs_lt (b) b ww HN.out HS.out HW.out m hm
        have hl1 := rs_lt (b) b ww HN.out HS.out HW.out (m + 1) (by omega)
        have e1 := HWB.out _ hp.1
        have e2 := and8 (((b : Nat)) : Int) _ hp.1
        have e3 := and8 (b : Int) _ hp.1
        rw [byteN_nat (b) HN.out] at e2
        rw [byteN_nat b HS.out] at e3
        rw [show (((b : Nat)) : Int) = (b : Int) by omega] at e2
        have hK0 : 0 < 2 ^ m := Nat.two_pow_pos m
        have hp2 := Lib.hid hp.2
        have hp1 := hp.1
        clear hp
        generalize hG1 : rs (b) b ww (m + 1) = G1 at *
        generalize hG0 : rs (b) b ww m = G0 at *
        have HG1 := Lib.hid hG1
        clear hG1 hG0
        generalize hK : 2 ^ m = K at *
        have HK := Lib.hid hK
        clear hK
        have hlt256 : (K : Int) < 256 := by omega
        by_cases hz : ww &&& K = 0
        · rw [if_pos hz] at hs1
          rw [hz] at e1
          generalize b &&& K = BK at *
          generalize (b) &&& K = NK at *
          go_wp2
          refine ⟨⟨m + 1, by omega, ?_, ?_, by first | rfl | trivial⟩, ?_⟩
          · rw [← hp2.out]; simp
          · rw [HG1.out, hs1]; simp
          · simp only [intOf]; omega
        · rw [if_neg hz] at hs1
          have hz2 : (0 : Int) < ((ww &&& K : Nat) : Int) := by omega
          generalize ww &&& K = WK at *
          generalize b &&& K = BK at *
          generalize (b) &&& K = NK at *
          go_wp2
          refine ⟨⟨m + 1, by omega, ?_, ?_, by first | rfl | trivial⟩, ?_⟩
          · rw [← hp2.out]; simp
          · rw [HG1.out, hs1]; simp
          · simp only [intOf]; omega
      · obtain rfl := pow8_not m hm hlt
        have hfin := Lib.hid ((rs_all (b) b ww HN.out HS.out HW.out).trans ((congrArg (fun x => mixB x b ww) HNE.out.symm).trans HT.out.symm))
        generalize rs (b) b ww 8 = G0 at *
        go_wp2
        go_ret
        first | rfl | exact ⟨rfl, rfl⟩ | exact ⟨by rw [hfin.out]; rfl, rfl⟩
end Go.Proofs.Ytgdcdkajicgliaa
