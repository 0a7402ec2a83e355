/- Contracts of octet's Reader, on: Raw, number, the readers of numbers, Skip, Left, Err. Conditions: each theorem's own premises. -/
import Derived.Test.YtgbcngmciabpkaaOct2
import Derived.Test.YtgbcngmciabpkaaBitsN
namespace Go.Proofs.Ytgbcngmciabpkaa
open Go.RowKit
set_option linter.unusedVariables false

/-- octet.Reader.Raw. -/
theorem raw_any (p : Nat) (bs : List Int) (at_ : Nat) (er n : Int) (w : World) (hr : RdAt w p bs at_ er) (hb : bs.length ≤ 140737488355328) (hn : (Lit.int .i64 n).wf = true) :
    Calls Try.prog 52 #[.pointer (some ⟨p, 0, none⟩), .int .i64 n] w fun e w' => ∃ a cap, e = .returned (.slice a (takeR bs at_ er n).1.length cap) ∧ Ints .u8 w' (.slice a (takeR bs at_ er n).1.length cap) (takeR bs at_ er n).1 ∧
      RdAt w' p bs (takeR bs at_ er n).2.1 (takeR bs at_ er n).2.2 ∧ Chg [p] w w' := by
  have hlen : (takeR bs at_ er n).1.length ≤ 140737488355328 := by
    unfold takeR
    split
    · simp
    · split
      · simp
      · split
        · simp
        · simp only [List.length_take, List.length_drop]; omega
  go_enter Try.func52, Try.ntmps52
  go_wp2_with (first
    | (go_at_call 53; refine (take_any p bs at_ er n _ hr hb hn).mono ?_; rintro e w1 ⟨a1, k1, rfl, hi1, hr1, hc1⟩)
    | (go_at_call 50; refine (clone_u8 _ _ _ hi1 hlen).mono ?_; rintro e w2 ⟨a2, k2, rfl, _, hi2, hx2⟩))
  go_ret
  exact ⟨_, _, rfl, hi2, hr1.ext hx2, hc1.trans (hx2.chg _)⟩

theorem raw_nil (n : Int) (w : World) : Calls Try.prog 52 #[.pointer none, .int .i64 n] w fun e w' => e = .returned (.slice none 0 0) ∧ w = w' := by
  go_enter Try.func52, Try.ntmps52
  go_wp2
  go_ret
  exact ⟨rfl, rfl⟩

/-- The number of bytes, the lowest first. -/
def leN : List Int → Int
  | [] => 0
  | b :: l => b + 256 * leN l

theorem leN_bound : ∀ (l : List Int), (∀ z ∈ l, 0 ≤ z ∧ z < 256) → 0 ≤ leN l ∧ leN l < 256 ^ l.length
  | [], _ => by simp [leN]
  | b :: l, h => by
    have h1 := leN_bound l fun z hz => h z (by simp [hz])
    have h2 := h b (by simp)
    simp only [leN, List.length_cons, Int.pow_succ]
    omega

theorem leN_snoc : ∀ (l : List Int) (b : Int), leN (l ++ [b]) = leN l + b * 256 ^ l.length
  | [], b => by simp [leN]
  | c :: l, b => by
    simp only [List.cons_append, leN, leN_snoc l b, List.length_cons, Int.pow_succ]
    rw [Int.mul_add, ← Int.add_assoc, ← Int.mul_assoc, Int.mul_comm 256 b, Int.mul_assoc, Int.mul_comm 256 (256 ^ l.length)]

theorem u8_of_wf {z : Int} (h : (Lit.int .u8 z).wf = true) : 0 ≤ z ∧ z < 256 := by
  simp [Lit.wf, IntKind.min, IntKind.max, IntKind.bits, IntKind.signed] at h
  omega

set_option maxHeartbeats 1000000 in
/-- octet.Reader.number. -/
theorem number_any (p : Nat) (bs : List Int) (at_ : Nat) (er n : Int) (w : World) (hr : RdAt w p bs at_ er) (hb : bs.length ≤ 140737488355328) (hn0 : 0 ≤ n) (hn4 : n ≤ 4) :
    Calls Try.prog 51 #[.pointer (some ⟨p, 0, none⟩), .int .i64 n] w fun e w' => e = .returned (.int .u64 (leN (takeR bs at_ er n).1)) ∧
      RdAt w' p bs (takeR bs at_ er n).2.1 (takeR bs at_ er n).2.2 ∧ Chg [p] w w' := by
  have hlen : (takeR bs at_ er n).1.length ≤ 4 := by
    unfold takeR
    split
    · simp
    · split
      · simp
      · split
        · simp
        · simp only [List.length_take, List.length_drop]; omega
  have hn : (Lit.int .i64 n).wf = true := WalkArith.wf_i64 (by omega)
  generalize hT : takeR bs at_ er n = T at *
  have HT := Lib.hid hT; clear hT
  obtain ⟨out, at1, er1⟩ := T
  simp only at hlen
  by_cases h0 : out = []
  · subst h0
    go_enter Try.func51, Try.ntmps51
    go_wp2_with (go_at_call 52; refine (raw_any p bs at_ er n _ hr hb hn).mono ?_; rw [HT.out]; rintro e w1 ⟨a1, k1, rfl, hi1, hr1, hc1⟩)
    refine wp_loop_rounds 1 ?_
    rw [rounds_succ]
    go_wp2
    go_ret
    exact ⟨rfl, hr1, hc1⟩
  · have h1 : 0 < out.length := List.length_pos_iff.2 h0
    clear h0
    go_enter Try.func51, Try.ntmps51
    go_wp2_with (go_at_call 52; refine (raw_any p bs at_ er n _ hr hb hn).mono ?_; rw [HT.out]; rintro e w1 ⟨a1, k1, he, hi1, hr1, hc1⟩; obtain ⟨b, off, rfl, hbl, hcell⟩ := hi1.pos h1; have HC := Lib.hid hcell; clear hcell; subst he)
    go_loop [5, 12] (fun x i => ∃ k : Nat, k ≤ out.length ∧ i = .int .i64 k ∧ x = .int .u64 (leN (out.take k))) (fun _ i => out.length - (intOf i).toNat)
    case atStart => exact ⟨0, Nat.zero_le _, rfl, rfl⟩
    case round =>
      obtain ⟨k, hk, rfl, rfl⟩ := hrel
      by_cases hlt : k < out.length
      · have hc := HC.out k hlt
        have hw := u8_of_wf (hi1.2 (out.getD k 0) (by rw [List.getD_eq_getElem?_getD, List.getElem?_eq_getElem hlt]; exact List.getElem_mem hlt))
        have hst : leN (out.take (k + 1)) = leN (out.take k) + out.getD k 0 * 256 ^ k := by
          rw [List.take_succ_eq_append_getElem hlt, leN_snoc, List.length_take_of_le (by omega), List.getD_eq_getElem?_getD, List.getElem?_eq_getElem hlt]; rfl
        have hbd := leN_bound (out.take k) fun z hz => u8_of_wf (hi1.2 z (List.mem_of_mem_take hz))
        rw [List.length_take_of_le (by omega)] at hbd
        have HST := Lib.hid hst; clear hst
        have HBD := Lib.hid hbd; clear hbd
        generalize out.getD k 0 = c at *
        go_wp2
        go_round
        case rel => exact ⟨k + 1, by omega, by go_num, by rw [HST.out, or_byte_u64 _ c k (by omega) HBD.out.1 HBD.out.2 hw.1 hw.2]⟩
        case measure => simp [intOf]; omega
      · go_wp2
        go_ret
        exact ⟨ret_int (by rw [List.take_of_length_le (by omega)]), hr1, hc1⟩

/-- The readers of numbers. -/
theorem u8_any (p : Nat) (bs : List Int) (at_ : Nat) (er : Int) (w : World) (hr : RdAt w p bs at_ er) (hb : bs.length ≤ 140737488355328) :
    Calls Try.prog 39 #[.pointer (some ⟨p, 0, none⟩)] w fun e w' => e = .returned (.int .u8 (IntKind.u8.wrap (leN (takeR bs at_ er 1).1))) ∧ RdAt w' p bs (takeR bs at_ er 1).2.1 (takeR bs at_ er 1).2.2 ∧ Chg [p] w w' := by
  generalize hv : leN (takeR bs at_ er 1).1 = v
  have HV := Lib.hid hv; clear hv
  go_enter Try.func39, Try.ntmps39
  go_wp2_with (go_at_call 51; refine (number_any p bs at_ er 1 _ hr hb (by decide) (by decide)).mono ?_; rw [HV.out]; rintro e w1 ⟨rfl, hr1, hc1⟩)
  go_ret
  exact ⟨by first | rfl | simp [IntKind.wrap_u8], hr1, hc1⟩
theorem u16_any (p : Nat) (bs : List Int) (at_ : Nat) (er : Int) (w : World) (hr : RdAt w p bs at_ er) (hb : bs.length ≤ 140737488355328) :
    Calls Try.prog 43 #[.pointer (some ⟨p, 0, none⟩)] w fun e w' => e = .returned (.int .u16 (IntKind.u16.wrap (leN (takeR bs at_ er 2).1))) ∧ RdAt w' p bs (takeR bs at_ er 2).2.1 (takeR bs at_ er 2).2.2 ∧ Chg [p] w w' := by
  generalize hv : leN (takeR bs at_ er 2).1 = v
  have HV := Lib.hid hv; clear hv
  go_enter Try.func43, Try.ntmps43
  go_wp2_with (go_at_call 51; refine (number_any p bs at_ er 2 _ hr hb (by decide) (by decide)).mono ?_; rw [HV.out]; rintro e w1 ⟨rfl, hr1, hc1⟩)
  go_ret
  exact ⟨by first | rfl | simp [IntKind.wrap_u8], hr1, hc1⟩
theorem i8_any (p : Nat) (bs : List Int) (at_ : Nat) (er : Int) (w : World) (hr : RdAt w p bs at_ er) (hb : bs.length ≤ 140737488355328) :
    Calls Try.prog 37 #[.pointer (some ⟨p, 0, none⟩)] w fun e w' => e = .returned (.int .i8 (IntKind.i8.wrap (leN (takeR bs at_ er 1).1))) ∧ RdAt w' p bs (takeR bs at_ er 1).2.1 (takeR bs at_ er 1).2.2 ∧ Chg [p] w w' := by
  generalize hv : leN (takeR bs at_ er 1).1 = v
  have HV := Lib.hid hv; clear hv
  go_enter Try.func37, Try.ntmps37
  go_wp2_with (go_at_call 51; refine (number_any p bs at_ er 1 _ hr hb (by decide) (by decide)).mono ?_; rw [HV.out]; rintro e w1 ⟨rfl, hr1, hc1⟩)
  go_ret
  exact ⟨by first | rfl | simp [IntKind.wrap_u8], hr1, hc1⟩
theorem i16_any (p : Nat) (bs : List Int) (at_ : Nat) (er : Int) (w : World) (hr : RdAt w p bs at_ er) (hb : bs.length ≤ 140737488355328) :
    Calls Try.prog 41 #[.pointer (some ⟨p, 0, none⟩)] w fun e w' => e = .returned (.int .i16 (IntKind.i16.wrap (leN (takeR bs at_ er 2).1))) ∧ RdAt w' p bs (takeR bs at_ er 2).2.1 (takeR bs at_ er 2).2.2 ∧ Chg [p] w w' := by
  generalize hv : leN (takeR bs at_ er 2).1 = v
  have HV := Lib.hid hv; clear hv
  go_enter Try.func41, Try.ntmps41
  go_wp2_with (go_at_call 51; refine (number_any p bs at_ er 2 _ hr hb (by decide) (by decide)).mono ?_; rw [HV.out]; rintro e w1 ⟨rfl, hr1, hc1⟩)
  go_ret
  exact ⟨by first | rfl | simp [IntKind.wrap_u8], hr1, hc1⟩
theorem i32_any (p : Nat) (bs : List Int) (at_ : Nat) (er : Int) (w : World) (hr : RdAt w p bs at_ er) (hb : bs.length ≤ 140737488355328) :
    Calls Try.prog 45 #[.pointer (some ⟨p, 0, none⟩)] w fun e w' => e = .returned (.int .i32 (IntKind.i32.wrap (leN (takeR bs at_ er 4).1))) ∧ RdAt w' p bs (takeR bs at_ er 4).2.1 (takeR bs at_ er 4).2.2 ∧ Chg [p] w w' := by
  generalize hv : leN (takeR bs at_ er 4).1 = v
  have HV := Lib.hid hv; clear hv
  go_enter Try.func45, Try.ntmps45
  go_wp2_with (go_at_call 51; refine (number_any p bs at_ er 4 _ hr hb (by decide) (by decide)).mono ?_; rw [HV.out]; rintro e w1 ⟨rfl, hr1, hc1⟩)
  go_ret
  exact ⟨by first | rfl | exact ret_int (IntWalk.i32_left _).symm, hr1, hc1⟩

end Go.Proofs.Ytgbcngmciabpkaa
