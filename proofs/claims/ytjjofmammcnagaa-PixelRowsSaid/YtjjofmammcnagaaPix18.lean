/- The walk of PixelBack. Conditions: each theorem's own premises. -/
import Derived.Test.YtjjofmammcnagaaPix17
namespace Go.Proofs.Ytjjofmammcnagaa
open Go.RowKit
set_option linter.unusedVariables false
attribute [local go_sem] eq_vec

theorem sl_four {w : World} {a : Option Addr} {q cap : Nat} {L : List (List Int)} (h : SlC w (.slice a q cap) 4 q (vecsC L)) (hl : L.length = q) (hv : ∀ c ∈ L, VecOk c) (m : Nat) (hm : m < q) :
    ∃ b off c0 c1 c2 c3, a = some ⟨b, off, none⟩ ∧ b < w.heap.size ∧ L[m]? = some [c0, c1, c2, c3] ∧ w.cell? ⟨b, off + m * 4, none⟩ = some (.int .i32 c0) ∧ w.cell? ⟨b, off + m * 4 + 1, none⟩ = some (.int .i32 c1) ∧ w.cell? ⟨b, off + m * 4 + 2, none⟩ = some (.int .i32 c2) ∧ w.cell? ⟨b, off + m * 4 + 3, none⟩ = some (.int .i32 c3) := by
  obtain ⟨hlen, a', cap', he, hn, hc, hz, hp⟩ := h
  simp only [Value.slice.injEq] at he
  obtain ⟨rfl, _, rfl⟩ := he
  obtain ⟨b, off, rfl, hb, hcell⟩ := hp (by omega)
  obtain ⟨c, hcm⟩ : ∃ c, L[m]? = some c := ⟨_, List.getElem?_eq_getElem (by omega)⟩
  have hvc := hv c (List.mem_of_getElem? hcm)
  obtain ⟨c0, c1, c2, c3, rfl⟩ : ∃ c0 c1 c2 c3, c = [c0, c1, c2, c3] := by
    match c, hvc.1 with
    | [c0, c1, c2, c3], _ => exact ⟨c0, c1, c2, c3, rfl⟩
  obtain ⟨k0, k1, k2, k3⟩ := vecs_at L m c0 c1 c2 c3 (fun c hc => (hv c hc).1) hcm
  have e1 := hcell _ _ k1
  have e2 := hcell _ _ k2
  have e3 := hcell _ _ k3
  rw [← Nat.add_assoc] at e1 e2 e3
  exact ⟨b, off, c0, c1, c2, c3, rfl, hb, hcm, hcell _ _ k0, e1, e2, e3⟩

set_option maxHeartbeats 4000000 in
set_option maxRecDepth 20000 in
theorem back_walk (n : Int) (v : Value) (zs : List Int) (w : World) (h : Ints .u8 w v zs) : Calls Try.prog 8 #[.int .i64 n, v] w fun e w' => e = .returned (.bool true) ∧ Ext w w' := by
  obtain ⟨a, cap, rfl⟩ : ∃ a cap, v = .slice a zs.length cap := by obtain ⟨⟨_, a, cap, rfl, _⟩, _⟩ := h; exact ⟨a, cap, rfl⟩
  by_cases hbig : 5000 < zs.length
  · have hb' : (5000 : Int) < (zs.length : Int) := by omega
    clear h
    go_enter Try.func8, Try.ntmps8
    go_wp2_with (go_at_call 9; refine (wakes_any _).mono ?_; rintro e w1 ⟨rfl, hx1⟩)
    go_ret
    exact ⟨rfl, hx1⟩
  · have hb' : ¬ (5000 : Int) < (zs.length : Int) := by omega
    by_cases hbad : n < 1 ∨ 8 ≤ n
    · have HR := Lib.hid (fun v w => row_bad n v w hbad)
      clear hbad h
      go_enter Try.func8, Try.ntmps8
      go_wp2_with (first | (go_at_call 9; refine (wakes_any _).mono ?_; rintro e w1 ⟨rfl, hx1⟩) | (go_at_call 21; refine (HR.out _ _).mono ?_; rintro e w2 ⟨rfl, hx2⟩))
      go_ret
      exact ⟨rfl, hx1.trans hx2⟩
    · obtain ⟨k, rfl⟩ := Int.eq_ofNat_of_zero_le (show 0 ≤ n by omega)
      have h1 : 1 ≤ k := by omega
      have h7 : k ≤ 7 := by omega
      have hs := szN_bd k
      by_cases hl : zs.length % szN k = 0
      · obtain ⟨q, hq⟩ : ∃ q, zs.length = q * szN k := ⟨zs.length / szN k, by have := Nat.div_add_mod zs.length (szN k); rw [hl, Nat.add_zero, Nat.mul_comm] at this; exact this.symm⟩
        have hq5 : q ≤ 5000 := by
          have : q * 1 ≤ q * szN k := Nat.mul_le_mul_left q hs.1
          omega
        have HR := Lib.hid (fun v w (h : Ints .u8 w v zs) => row_any k q v zs w h1 h7 h hq hq5)
        have HB : layB k (rowL k zs q) = zs := by rw [layB_rows k zs h1 h7 (fun z hz => u8_of_wf (h.2 z hz)) q (by omega), ← hq, List.take_length]
        have HL : Hid (∀ v w, SlC w v 4 q (vecsC (rowL k zs q)) → Calls Try.prog 22 #[.int .i64 (k : Int), v] w fun e w' => ∃ a cap, e = .returned (.tuple #[.slice a zs.length cap, .int .i64 0]) ∧ w'.ownsRow w.heap.size 5 1 (.slice a zs.length cap) zs.length (zs.map (Value.int .u8)) ∧ Ext w w') := fun v w hv => by
          have := lay_any k v (rowL k zs q) w h1 h7 (by rw [rowL_length]; exact hv) (rowL_ok k zs q h1 h7) (by rw [rowL_length]; exact hq5)
          rw [rowL_length, HB, ← hq] at this
          exact this
        have HC := Lib.hid (rowL_cells k zs q)
        have HOK := Lib.hid (rowL_ok k zs q h1 h7)
        have HLEN := Lib.hid (rowL_length k zs q)
        rw [← rowL_cells k zs q] at HR
        have hwf := Lib.hid h.2
        have HH := Lib.hid h
        generalize rowL k zs q = L at *
        clear hbad hl hq HB h hbig HC
        go_enter Try.func8, Try.ntmps8
        go_wp2_with (first | (go_at_call 9; refine (wakes_any _).mono ?_; rintro e w1 ⟨rfl, hx1⟩) | (go_at_call_of 21 (Value.slice a zs.length cap); refine (HR.out _ _ (HH.out.ext hx1)).mono ?_; rintro e w2 ⟨a2, cap2, rfl, hown2, hx2⟩; have hr2 := Lib.hid (SlC.owned hown2); clear hown2) | (go_at_call 22; refine (HL.out _ _ hr2.out).mono ?_; rintro e w3 ⟨a3, cap3, rfl, hown3, hx3⟩; have hi3 := Lib.hid (Ints.owned hown3 hwf.out); clear hown3) | (go_at_call_of 21 (Value.slice a3 zs.length cap3); refine (HR.out _ _ hi3.out).mono ?_; rintro e w4 ⟨a4, cap4, rfl, hown4, hx4⟩; have hr4 := Lib.hid (SlC.owned hown4); clear hown4) | (go_at_call 23; refine (equal_any _ _ zs _ (HH.out.ext (((hx1.trans hx2).trans hx3).trans hx4)) (hi3.out.ext hx4)).mono ?_; rintro e w5 ⟨rfl, rfl⟩))
        have hx5 := Lib.hid (((hx1.trans hx2).trans hx3).trans hx4)
        have hr24 := Lib.hid (hr2.out.ext (hx3.trans hx4))
        clear hx1 hx2 hx3 hx4 hi3 HR HL HH
        go_loopw [60] (fun i wr => ∃ m : Nat, m ≤ q ∧ i = .int .i64 m ∧ Ext w4 wr) (fun i _ => q - (intOf i).toNat)
        case atStart => exact ⟨0, Nat.zero_le _, rfl, Ext.refl _⟩
        case round =>
          obtain ⟨m, hm, rfl, hx⟩ := hrel
          by_cases hlt : m < q
          · obtain ⟨b, off, c0, c1, c2, c3, rfl, hb, hcm, e0, e1, e2, e3⟩ := sl_four (hr24.out.ext hx) HLEN.out HOK.out m hlt
            obtain ⟨b', off', d0, d1, d2, d3, rfl, hb', hdm, f0, f1, f2, f3⟩ := sl_four (hr4.out.ext hx) HLEN.out HOK.out m hlt
            rw [hcm] at hdm
            simp only [Option.some.injEq, List.cons.injEq, and_true] at hdm
            obtain ⟨rfl, rfl, rfl, rfl⟩ := hdm
            have hml : (m : Int) < (q : Int) := by omega
            have HX := Lib.hid hx
            clear hcm hlt hx
            go_wp2_with fail
            go_quiet (fail)
            go_wp2_with fail
            go_roundw
            case rel => exact ⟨m + 1, by omega, by go_num, HX.out.trans ((Ext.refl _).drewN _)⟩
            case measure => simp [intOf]; omega
          · obtain rfl : m = q := by omega
            clear hlt hm
            go_wp2_with fail
            go_ret
            exact ⟨rfl, hx5.out.trans hx⟩
      · have HR := Lib.hid (fun w (h : Ints .u8 w (.slice a zs.length cap) zs) => row_short k _ zs w h1 h7 h hl)
        have HH := Lib.hid h
        clear hbad h hl hbig
        go_enter Try.func8, Try.ntmps8
        go_wp2_with (first | (go_at_call 9; refine (wakes_any _).mono ?_; rintro e w1 ⟨rfl, hx1⟩) | (go_at_call 21; refine (HR.out _ (HH.out.ext hx1)).mono ?_; rintro e w2 ⟨rfl, hx2⟩))
        go_ret
        exact ⟨rfl, hx1.trans hx2⟩
theorem back_arg (W : World) (v0 v1 : Value) (h0 : ArgIs Try.prog W 3 v0) (h1 : ArgIs Try.prog W 22 v1) : Calls Try.prog 8 #[v0, v1] W fun e w' => e = .returned (.bool true) ∧ Ext W w' := by
  obtain ⟨n, rfl, _⟩ := h0.int Try.underlying3
  obtain ⟨zs, hi, hb⟩ := h1.ints Try.underlying22 Try.underlying5 cells_u8 bytes_u8
  exact back_walk n v1 zs W hi
end Go.Proofs.Ytjjofmammcnagaa
