/- The walk of PixelUnpacks. Conditions: each theorem's own premises. -/
import Derived.Test.YtjjofmammcnagaaPix11
namespace Go.Proofs.Ytjjofmammcnagaa
open Go.RowKit
set_option linter.unusedVariables false
attribute [local go_sem] eq_vec

theorem Ints.none_ (k : IntKind) (w : World) (x : Addr) : Ints k w (.slice (some x) 0 0) [] := ⟨⟨rfl, _, _, rfl, Nat.le_refl _, Nat.zero_le _, (fun _ => rfl), (fun h => absurd h (Nat.lt_irrefl _))⟩, by simp⟩
theorem vecC4 (a b c d : Int) : vecC [a, b, c, d] = #[.int .i32 a, .int .i32 b, .int .i32 c, .int .i32 d] := rfl
theorem unpV_four (n : Nat) (X : Int) : ∃ a b c d, unpV n X = [a, b, c, d] := by
  have hl : (outU X (chL n) (restL n)).length = 4 := by
    have : ∀ (l : List (Nat × Nat × Nat)) (o : List Int), (outU X l o).length = o.length := by
      intro l
      induction l with
      | nil => intro o; rfl
      | cons c l ih => intro o; exact (ih _).trans (by simp)
    rw [this]
    unfold restL
    split <;> rfl
  unfold unpV
  split
  · exact ⟨_, _, _, _, rfl⟩
  · match outU X (chL n) (restL n), hl with
    | [a, b, c, d], _ => exact ⟨a, b, c, d, rfl⟩

set_option maxHeartbeats 2000000 in
set_option maxRecDepth 20000 in
theorem unpacks_walk (n : Int) (v : Value) (zs : List Int) (w : World) (h : Ints .u8 w v zs) (hb : zs.length ≤ 140737488355328) : Calls Try.prog 3 #[.int .i64 n, v] w fun e w' => e = .returned (.bool true) ∧ Ext w w' := by
  obtain ⟨i0, hi, hz0, hz1, hz2⟩ := info_parts info_u8
  obtain ⟨a, cap, rfl, hcap1, hcap2⟩ : ∃ a cap, v = .slice a zs.length cap ∧ zs.length ≤ cap ∧ cap ≤ maxLen := by obtain ⟨⟨_, a, cap, rfl, h1, h2, _⟩, _⟩ := h; exact ⟨a, cap, rfl, h1, h2⟩
  have hwf := h.2
  cases a with
  | none =>
    have h0 : cap = 0 := by obtain ⟨⟨_, a, cap, he, _, _, hz, _⟩, _⟩ := h; simp at he; obtain ⟨rfl, rfl⟩ := he; exact hz rfl
    have h1 : zs = [] := List.eq_nil_of_length_eq_zero (by omega)
    subst h0; subst h1
    by_cases hbad : n < 1 ∨ 8 ≤ n
    · have HU := Lib.hid (fun v' w' (h' : Ints .u8 w' v' []) => unpack_bad n v' [] w' hbad h')
      have HZ := Lib.hid (fun w => refSize_any n w)
      rw [show szV n = 0 by unfold szV; rw [if_neg (by omega), if_neg (by omega), if_neg (by omega)]] at HZ
      clear hbad h
      go_enter Try.func3, Try.ntmps3
      go_wp2_with (first | (go_at_call 9; refine (wakes_any _).mono ?_; rintro e w1 ⟨rfl, hx1⟩; have hx2 := Lib.hid (hx1.alloc (.cells #[] 5)); have hvs : Ints .u8 (w1.alloc (.cells #[] 5)) (.slice (some ⟨w1.heap.size, 0, none⟩) 0 0) [] := Ints.none_ _ _ _) | (go_at_call 10; refine (HU.out _ _ hvs).mono ?_; rintro e w3 ⟨rfl, hx3⟩) | (go_at_call 11; refine (HZ.out _).mono ?_; rintro e w4 ⟨rfl, rfl⟩))
      go_ret
      exact ⟨rfl, (hx2.out.trans hx3).alloc _⟩
    · obtain ⟨m, rfl⟩ := Int.eq_ofNat_of_zero_le (show 0 ≤ n by omega)
      have h1 : 1 ≤ m := by omega
      have h7 : m ≤ 7 := by omega
      clear hbad h
      have hsz1 : 1 ≤ szV (m : Int) := by
        rw [szN_V m h1 h7]
        have := szN_bd m
        omega
      have HU := Lib.hid (fun v' w' (h' : Ints .u8 w' v' []) => unpack_short m v' [] w' h1 h7 h' (by simp; omega))
      have HZ := Lib.hid (fun w => refSize_any m w)
      have hsz0 : (szV (m : Int) == 0) = false := by simp; omega
      have hl' : ((0 : Int) != szV m) = true := by simp; omega
      generalize szV (m : Int) = S at *
      go_enter Try.func3, Try.ntmps3
      go_wp2_with (first | (go_at_call 9; refine (wakes_any _).mono ?_; rintro e w1 ⟨rfl, hx1⟩; have hx2 := Lib.hid (hx1.alloc (.cells #[] 5)); have hvs : Ints .u8 (w1.alloc (.cells #[] 5)) (.slice (some ⟨w1.heap.size, 0, none⟩) 0 0) [] := Ints.none_ _ _ _) | (go_at_call 10; refine (HU.out _ _ hvs).mono ?_; rintro e w3 ⟨rfl, hx3⟩) | (go_at_call 11; refine (HZ.out _).mono ?_; rintro e w4 ⟨rfl, rfl⟩))
      go_ret
      exact ⟨rfl, (hx2.out.trans hx3).alloc _⟩
  | some x =>
    have HN := Lib.hid (SlC.news h.1 rfl (by decide))
    have HH := Lib.hid h
    clear h
    by_cases hbad : n < 1 ∨ 8 ≤ n
    · have HU := Lib.hid (fun v' w' (h' : Ints .u8 w' v' zs) => unpack_bad n v' zs w' hbad h')
      have HZ := Lib.hid (fun w => refSize_any n w)
      rw [show szV n = 0 by unfold szV; rw [if_neg (by omega), if_neg (by omega), if_neg (by omega)]] at HZ
      clear hbad
      go_enter Try.func3, Try.ntmps3
      go_wp2_with (first | (go_at_call 9; refine (wakes_any _).mono ?_; rintro e w1 ⟨rfl, hx1'⟩; have hx1 := Lib.hid hx1'; clear hx1') | (at_builtin; refine wpList_append_own _ rfl _ _ 22 rfl w1.heap.size 5 i0 (.int .u8 0) 1 1 Try.underlying22 hi hz0 hz1 hz2 rfl (by decide) _ _ _ rfl (World.ownsRow_made w1 #[] 0 (Nat.le_refl _) (Nat.zero_le _) (by simp)) x zs.length cap (zs.map (Value.int .u8)) rfl ?qc1 ?qc2 ?qc3 ?qc4 ?qc5 ?qc6 ?_))
      case qc1 => simp
      case qc2 =>
        intro j u hj
        exact (hx1.out.alloc _).cell (HN.out j u hj)
      case qc3 => exact int_one
      case qc4 => unfold maxLen; omega
      case qc5 => omega
      case qc6 => simp
      intro v' w2 hown hgrow hnil
      have hx2 := Lib.hid ((hx1.out.alloc _).grown hgrow (by intro k hk; simp [Value.ownBlock] at hk; have := hx1.out.size; omega))
      have hown' : w2.ownsRow w1.heap.size 5 1 v' zs.length (zs.map (Value.int .u8)) := by simpa using hown
      have hvs : Ints .u8 w2 v' zs := Ints.owned hown' hwf
      clear hown hgrow hnil hown'
      go_wp2_with (first | (go_at_call 10; refine (HU.out _ _ hvs).mono ?_; rintro e w3 ⟨rfl, hx3⟩) | (go_at_call 11; refine (HZ.out _).mono ?_; rintro e w4 ⟨rfl, rfl⟩))
      go_ret
      exact ⟨rfl, (hx2.out.trans hx3).alloc _⟩
    · obtain ⟨m, rfl⟩ := Int.eq_ofNat_of_zero_le (show 0 ≤ n by omega)
      have h1 : 1 ≤ m := by omega
      have h7 : m ≤ 7 := by omega
      clear hbad
      have hsz0 : (szV (m : Int) == 0) = false := by
        rw [szN_V m h1 h7]
        have := szN_bd m
        simp; omega
      by_cases hl : (zs.length : Int) = szV m
      · have HU := Lib.hid (fun v' w' (h' : Ints .u8 w' v' zs) => unpack_any m v' zs w' h1 h7 h' hl)
        have HR := Lib.hid (fun v' w' (h' : Ints .u8 w' v' zs) => refunp_any m v' zs w' h1 h7 h' hl)
        have hl' : ((zs.length : Int) != szV m) = false := by simpa using hl
        obtain ⟨t0, t1, t2, t3, ht⟩ := unpV_four m (leN zs)
        rw [ht, vecC4] at HU HR
        have HZ := Lib.hid (fun w => refSize_any m w)
        clear hl ht
        generalize szV (m : Int) = S at *
        go_enter Try.func3, Try.ntmps3
        go_wp2_with (first | (go_at_call 9; refine (wakes_any _).mono ?_; rintro e w1 ⟨rfl, hx1'⟩; have hx1 := Lib.hid hx1'; clear hx1') | (at_builtin; refine wpList_append_own _ rfl _ _ 22 rfl w1.heap.size 5 i0 (.int .u8 0) 1 1 Try.underlying22 hi hz0 hz1 hz2 rfl (by decide) _ _ _ rfl (World.ownsRow_made w1 #[] 0 (Nat.le_refl _) (Nat.zero_le _) (by simp)) x zs.length cap (zs.map (Value.int .u8)) rfl ?qc1 ?qc2 ?qc3 ?qc4 ?qc5 ?qc6 ?_))
        case qc1 => simp
        case qc2 =>
          intro j u hj
          exact (hx1.out.alloc _).cell (HN.out j u hj)
        case qc3 => exact int_one
        case qc4 => unfold maxLen; omega
        case qc5 => omega
        case qc6 => simp
        intro v' w2 hown hgrow hnil
        have hx2 := Lib.hid ((hx1.out.alloc _).grown hgrow (by intro k hk; simp [Value.ownBlock] at hk; have := hx1.out.size; omega))
        have hown' : w2.ownsRow w1.heap.size 5 1 v' zs.length (zs.map (Value.int .u8)) := by simpa using hown
        have hvs : Ints .u8 w2 v' zs := Ints.owned hown' hwf
        clear hown hgrow hnil hown'
        go_wp2_with (first | (go_at_call 10; refine (HU.out _ _ hvs).mono ?_; rintro e w3 ⟨rfl, hx3⟩) | (go_at_call 11; refine (HZ.out _).mono ?_; rintro e w4 ⟨rfl, rfl⟩))
        obtain ⟨w5, hw5e, hw5, hx5⟩ : ∃ w5, w3.alloc (.cells #[.int .i32 t0, .int .i32 t1, .int .i32 t2, .int .i32 t3] 26) = w5 ∧ w5.heap[w3.heap.size]? = some (.cells #[.int .i32 t0, .int .i32 t1, .int .i32 t2, .int .i32 t3] 26 (0, 0)) ∧ Ext w3 w5 := ⟨_, rfl, heap_alloc_new _ _, (Ext.refl _).alloc _⟩
        rw [hw5e]
        have g0 : w5.cell? ⟨w3.heap.size, 0, none⟩ = some (.int .i32 t0) := cell_of_heap hw5 rfl
        have g1 : w5.cell? ⟨w3.heap.size, 1, none⟩ = some (.int .i32 t1) := cell_of_heap hw5 rfl
        have g2 : w5.cell? ⟨w3.heap.size, 2, none⟩ = some (.int .i32 t2) := cell_of_heap hw5 rfl
        have g3 : w5.cell? ⟨w3.heap.size, 3, none⟩ = some (.int .i32 t3) := cell_of_heap hw5 rfl
        have HX5 := Lib.hid ((hx2.out.trans hx3).trans hx5)
        have hq5 := heap_lt hw5
        generalize w3.heap.size = q at *
        have HH5 := Lib.hid (HH.out.ext HX5.out)
        clear hw5e hw5 hx5 hx3 hvs
        go_region_held3 (fun w' => w'.cell? ⟨q, 0, none⟩ = some (.int .i32 t0) ∧ w'.cell? ⟨q, 1, none⟩ = some (.int .i32 t1) ∧ w'.cell? ⟨q, 2, none⟩ = some (.int .i32 t2) ∧ w'.cell? ⟨q, 3, none⟩ = some (.int .i32 t3)) (go_keep) (first | (go_at_call 12; refine (HR.out _ _ (HH5.out.ext (Ext.refl _).drew)).mono ?_; rintro e w9 ⟨rfl, hx9⟩; have g90 := hx9.cell g0; have g91 := hx9.cell g1; have g92 := hx9.cell g2; have g93 := hx9.cell g3))
        all_goals go_wp2_with fail
        all_goals go_ret
        all_goals exact ⟨by simp, HX5.out.trans ((Ext.refl _).drew.trans hx9)⟩
      · have HU := Lib.hid (fun v' w' (h' : Ints .u8 w' v' zs) => unpack_short m v' zs w' h1 h7 h' hl)
        have hl' : ((zs.length : Int) != szV m) = true := by simpa using hl
        have HZ := Lib.hid (fun w => refSize_any m w)
        clear hl
        generalize szV (m : Int) = S at *
        go_enter Try.func3, Try.ntmps3
        go_wp2_with (first | (go_at_call 9; refine (wakes_any _).mono ?_; rintro e w1 ⟨rfl, hx1'⟩; have hx1 := Lib.hid hx1'; clear hx1') | (at_builtin; refine wpList_append_own _ rfl _ _ 22 rfl w1.heap.size 5 i0 (.int .u8 0) 1 1 Try.underlying22 hi hz0 hz1 hz2 rfl (by decide) _ _ _ rfl (World.ownsRow_made w1 #[] 0 (Nat.le_refl _) (Nat.zero_le _) (by simp)) x zs.length cap (zs.map (Value.int .u8)) rfl ?qc1 ?qc2 ?qc3 ?qc4 ?qc5 ?qc6 ?_))
        case qc1 => simp
        case qc2 =>
          intro j u hj
          exact (hx1.out.alloc _).cell (HN.out j u hj)
        case qc3 => exact int_one
        case qc4 => unfold maxLen; omega
        case qc5 => omega
        case qc6 => simp
        intro v' w2 hown hgrow hnil
        have hx2 := Lib.hid ((hx1.out.alloc _).grown hgrow (by intro k hk; simp [Value.ownBlock] at hk; have := hx1.out.size; omega))
        have hown' : w2.ownsRow w1.heap.size 5 1 v' zs.length (zs.map (Value.int .u8)) := by simpa using hown
        have hvs : Ints .u8 w2 v' zs := Ints.owned hown' hwf
        clear hown hgrow hnil hown'
        go_wp2_with (first | (go_at_call 10; refine (HU.out _ _ hvs).mono ?_; rintro e w3 ⟨rfl, hx3⟩) | (go_at_call 11; refine (HZ.out _).mono ?_; rintro e w4 ⟨rfl, rfl⟩))
        go_ret
        exact ⟨rfl, (hx2.out.trans hx3).alloc _⟩

theorem cells_u8 : Try.prog.cellsOf 5 = 1 := by kernel_rfl
theorem bytes_u8 : Try.prog.bytesOf 5 = 1 := by kernel_rfl
theorem unpacks_arg (W : World) (v0 v1 : Value) (h0 : ArgIs Try.prog W 3 v0) (h1 : ArgIs Try.prog W 22 v1) : Calls Try.prog 3 #[v0, v1] W fun e w' => e = .returned (.bool true) ∧ Ext W w' := by
  obtain ⟨n, rfl, _⟩ := h0.int Try.underlying3
  obtain ⟨zs, hi, hb⟩ := h1.ints Try.underlying22 Try.underlying5 cells_u8 bytes_u8
  exact unpacks_walk n v1 zs W hi (by omega)
end Go.Proofs.Ytjjofmammcnagaa
