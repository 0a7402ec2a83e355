/- The walks of octet's laws: OctetNone, OctetSkips, OctetBack. Conditions: each theorem's own premises. -/
import Derived.Test.YtooieiehmffgdaaOct6
import Derived.Deep.DeepCutAuto
namespace Go.Proofs.Ytooieiehmffgdaa
open Go.RowKit
set_option linter.unusedVariables false

theorem number_nil (n : Int) (w : World) : Calls Try.prog 28 #[.pointer none, .int .i64 n] w fun e w' => e = .returned (.int .u64 0) ∧ w = w' := by
  go_enter Try.func28, Try.ntmps28
  go_wp2_with (go_at_call 22; refine (raw_nil n _).mono ?_; rintro e w1 ⟨rfl, rfl⟩)
  refine wp_loop_rounds 1 ?_
  rw [rounds_succ]
  go_wp2
  go_ret
  exact ⟨rfl, rfl⟩

theorem u8_nil (w : World) : Calls Try.prog 24 #[.pointer none] w fun e w' => e = .returned (.int .u8 0) ∧ w = w' := by
  go_enter Try.func24, Try.ntmps24
  go_wp2_with (go_at_call 28; refine (number_nil 1 _).mono ?_; rintro e w1 ⟨rfl, rfl⟩)
  go_ret
  exact ⟨rfl, rfl⟩

theorem u16_nil (w : World) : Calls Try.prog 18 #[.pointer none] w fun e w' => e = .returned (.int .u16 0) ∧ w = w' := by
  go_enter Try.func18, Try.ntmps18
  go_wp2_with (go_at_call 28; refine (number_nil 2 _).mono ?_; rintro e w1 ⟨rfl, rfl⟩)
  go_ret
  exact ⟨rfl, rfl⟩

theorem u32_nil (w : World) : Calls Try.prog 16 #[.pointer none] w fun e w' => e = .returned (.int .u32 0) ∧ w = w' := by
  go_enter Try.func16, Try.ntmps16
  go_wp2_with (go_at_call 28; refine (number_nil 4 _).mono ?_; rintro e w1 ⟨rfl, rfl⟩)
  go_ret
  exact ⟨rfl, rfl⟩

theorem i8_nil (w : World) : Calls Try.prog 25 #[.pointer none] w fun e w' => e = .returned (.int .i8 0) ∧ w = w' := by
  go_enter Try.func25, Try.ntmps25
  go_wp2_with (go_at_call 28; refine (number_nil 1 _).mono ?_; rintro e w1 ⟨rfl, rfl⟩)
  go_ret
  exact ⟨rfl, rfl⟩

theorem i16_nil (w : World) : Calls Try.prog 17 #[.pointer none] w fun e w' => e = .returned (.int .i16 0) ∧ w = w' := by
  go_enter Try.func17, Try.ntmps17
  go_wp2_with (go_at_call 28; refine (number_nil 2 _).mono ?_; rintro e w1 ⟨rfl, rfl⟩)
  go_ret
  exact ⟨rfl, rfl⟩

theorem i32_nil (w : World) : Calls Try.prog 15 #[.pointer none] w fun e w' => e = .returned (.int .i32 0) ∧ w = w' := by
  go_enter Try.func15, Try.ntmps15
  go_wp2_with (go_at_call 28; refine (number_nil 4 _).mono ?_; rintro e w1 ⟨rfl, rfl⟩)
  go_ret
  exact ⟨rfl, rfl⟩


set_option maxHeartbeats 2000000 in
/-- OctetNone. -/
theorem none_walk (n : Int) (w : World) (hn : (Lit.int .i64 n).wf = true) :
    Calls Try.prog 7 #[.int .i64 n] w fun e w' => e = .returned (.bool true) ∧ Ext w w' := by
  go_enter Try.func7, Try.ntmps7
  go_wp2_with (first
    | (go_at_call 8; refine (wakes_any _).mono ?_; rintro e w1 ⟨rfl, hx1⟩)
    | (go_at_call 21; refine (skip_nil n _).mono ?_; rintro e w1 ⟨rfl, rfl⟩)
    | (go_at_call 24; refine (u8_nil _).mono ?_; rintro e w1 ⟨rfl, rfl⟩)
    | (go_at_call 18; refine (u16_nil _).mono ?_; rintro e w1 ⟨rfl, rfl⟩)
    | (go_at_call 16; refine (u32_nil _).mono ?_; rintro e w1 ⟨rfl, rfl⟩)
    | (go_at_call 25; refine (i8_nil _).mono ?_; rintro e w1 ⟨rfl, rfl⟩)
    | (go_at_call 17; refine (i16_nil _).mono ?_; rintro e w1 ⟨rfl, rfl⟩)
    | (go_at_call 15; refine (i32_nil _).mono ?_; rintro e w1 ⟨rfl, rfl⟩)
    | (go_at_call 22; refine (raw_nil n _).mono ?_; rintro e w1 ⟨rfl, rfl⟩)
    | (go_at_call 19; refine (left_nil _).mono ?_; rintro e w1 ⟨rfl, rfl⟩)
    | (go_at_call 20; refine (err_nil _).mono ?_; rintro e w1 ⟨rfl, rfl⟩))
  go_ret
  exact ⟨rfl, hx1⟩

theorem none_arg (W : World) (v0 : Value) (h0 : ArgIs Try.prog W 3 v0) :
    Calls Try.prog 7 #[v0] W fun e w' => e = .returned (.bool true) ∧ Ext W w' := by
  obtain ⟨n, rfl, hn⟩ := h0.int Try.underlying3
  exact none_walk n W hn

theorem wf_i64_iff {z : Int} (h : (Lit.int .i64 z).wf = true) : -9223372036854775808 ≤ z ∧ z ≤ 9223372036854775807 := by
  simp [Lit.wf, IntKind.min, IntKind.max, IntKind.bits, IntKind.signed] at h
  omega

theorem takeR_at (bs : List Int) (at_ : Nat) (er n : Int) (h : at_ ≤ bs.length) : (takeR bs at_ er n).2.1 ≤ bs.length := by
  unfold takeR
  split
  · exact h
  · split
    · exact h
    · split
      · exact h
      · simp only
        omega

set_option maxHeartbeats 4000000 in
/-- OctetSkips. -/
theorem skips_walk (v u : Value) (zs l : List Int) (w : World) (h : Ints .u8 w v zs) (hl : Ints .i64 w u l) (hb : zs.length ≤ 140737488355328) :
    Calls Try.prog 5 #[v, u] w fun e w' => e = .returned (.bool true) ∧ Ext w w' := by
  obtain ⟨a1, k1, rfl⟩ : ∃ a cap, v = .slice a zs.length cap := by obtain ⟨⟨_, a, cap, rfl, _⟩, _⟩ := h; exact ⟨a, cap, rfl⟩
  obtain ⟨a2, k2, rfl⟩ : ∃ a cap, u = .slice a l.length cap := by obtain ⟨⟨_, a, cap, rfl, _⟩, _⟩ := hl; exact ⟨a, cap, rfl⟩
  have hlm := hl.cap
  go_enter Try.func5, Try.ntmps5
  go_wp2_with fail
  refine (wakes_any _).mono ?_
  rintro e w1 ⟨rfl, e1⟩
  go_wp2_with fail
  refine (read_any _ zs _ (h.ext e1) hb).mono ?_
  rintro e w2 ⟨p, rfl, hp, hr, e2⟩
  go_wp2_with fail
  refine (read_any _ zs _ (h.ext (e1.trans e2)) hb).mono ?_
  rintro e w3 ⟨q, rfl, hq, hs, e3⟩
  have hr3 := hr.ext e3
  have hpq : p < q := by have := hr.lt; omega
  have hp0 : w.heap.size ≤ p := by have := e1.size; omega
  have e03 := (e1.trans e2).trans e3
  clear hr
  go_wp2_with fail
  go_loopw [17] (fun i wr => ∃ (k at_ : Nat) (er : Int), k ≤ l.length ∧ i = .int .i64 k ∧ RdAt wr p zs at_ er ∧ RdAt wr q zs at_ er ∧ Ext w wr) (fun i _ => l.length - (intOf i).toNat)
  case atStart => exact ⟨0, 0, 0, Nat.zero_le _, rfl, hr3, hs, e03⟩
  case round =>
    obtain ⟨k, at_, er, hk, rfl, hr, hs, hx⟩ := hrel
    by_cases hlt : k < l.length
    · obtain ⟨b, off, rfl, hbl, hcell⟩ := (hl.ext hx).pos (by omega)
      have hc := hcell k hlt
      have hw : (Lit.int .i64 (l.getD k 0)).wf = true := hl.2 _ (by rw [List.getD_eq_getElem?_getD, List.getElem?_eq_getElem hlt]; exact List.getElem_mem hlt)
      clear hcell
      generalize l.getD k 0 = n at *
      by_cases h100 : k = 100
      · subst h100
        go_wp2_with fail
        go_ret
        exact ⟨rfl, hx⟩
      · have h100' : ((k : Int) == 100) = false := by simp; omega
        go_wp2_with fail
        refine (skip_any p zs at_ er n _ hr hb hw).mono ?_
        rintro e w4 ⟨rfl, hr4, c4⟩
        have hs4 := hs.keep hr (by omega) c4
        go_wp2_with fail
        refine (raw_any q zs at_ er n _ hs4 hb hw).mono ?_
        rintro e w5 ⟨a5, k5, rfl, _, hs5, c5⟩
        have hr5 := hr4.keep hs4 (by omega) c5
        have hat := takeR_at zs at_ er n (by obtain ⟨_, _, _, h⟩ := hr; exact h)
        have hx5 : Ext w w5 := (hx.chgTrans c4 (by intro i hi; simp at hi; omega)).chgTrans c5 (by intro i hi; simp at hi; omega)
        clear hr hs hr4 hs4 c4 c5 hx
        generalize (takeR zs at_ er n).2.1 = at1 at *
        generalize (takeR zs at_ er n).2.2 = er1 at *
        go_wp2_with fail
        refine (left_any p zs at1 er1 _ hr5).mono ?_
        rintro e w6 ⟨rfl, e6⟩
        go_wp2_with fail
        refine (left_any q zs at1 er1 _ (hs5.ext e6)).mono ?_
        rintro e w7 ⟨rfl, e67⟩
        have e7 : Ext w5 w7 := e6.trans e67
        go_wp2_with fail
        refine (err_any p zs at1 er1 _ (hr5.ext e7)).mono ?_
        rintro e w8 ⟨rfl, rfl⟩
        go_wp2_with fail
        refine (err_any q zs at1 er1 _ (hs5.ext e7)).mono ?_
        rintro e w9 ⟨rfl, rfl⟩
        go_wp2_with fail
        go_roundw
        case rel => exact ⟨k + 1, at1, er1, by omega, by go_num, hr5.ext e7, hs5.ext e7, hx5.trans e7⟩
        case measure => simp [intOf]; omega
    · go_wp2_with fail
      go_ret
      exact ⟨rfl, hx⟩

theorem cells_int : Try.prog.cellsOf 3 = 1 := by kernel_rfl
theorem bytes_int : Try.prog.bytesOf 3 = 8 := by kernel_rfl

theorem skips_arg (W : World) (v0 v1 : Value) (h0 : ArgIs Try.prog W 22 v0) (h1 : ArgIs Try.prog W 45 v1) :
    Calls Try.prog 5 #[v0, v1] W fun e w' => e = .returned (.bool true) ∧ Ext W w' := by
  obtain ⟨zs, hi, hb⟩ := h0.ints Try.underlying22 Try.underlying5 cells_u8 bytes_u8
  obtain ⟨l, hl, _⟩ := h1.ints Try.underlying45 Try.underlying3 cells_int bytes_int
  exact skips_walk v0 v1 zs l W hi hl (by omega)

end Go.Proofs.Ytooieiehmffgdaa
