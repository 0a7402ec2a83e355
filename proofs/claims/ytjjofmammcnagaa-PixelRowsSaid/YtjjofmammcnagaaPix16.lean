/- The contract of pixel's Lay. Conditions: each theorem's own premises. -/
import Derived.Test.YtjjofmammcnagaaPix15
namespace Go.Proofs.Ytjjofmammcnagaa
open Go.RowKit
set_option linter.unusedVariables false

/-- Colours, one behind the other. -/
def vecsC (L : List (List Int)) : List Value := L.flatMap fun c => c.map (Value.int .i32)
def VecOk (c : List Int) : Prop := c.length = 4 ∧ ∀ x ∈ c, -2147483648 ≤ x ∧ x ≤ 2147483647
def layB (n : Nat) (L : List (List Int)) : List Int := L.flatMap fun c => lowB (packX n c) (szN n)
theorem vecs_at (L : List (List Int)) : ∀ (m : Nat) (a b c d : Int), (∀ c ∈ L, c.length = 4) → L[m]? = some [a, b, c, d] →
    (vecsC L)[m * 4]? = some (.int .i32 a) ∧ (vecsC L)[m * 4 + 1]? = some (.int .i32 b) ∧ (vecsC L)[m * 4 + 2]? = some (.int .i32 c) ∧ (vecsC L)[m * 4 + 3]? = some (.int .i32 d) := by
  induction L with
  | nil => intro m a b c d _ h; simp at h
  | cons x L ih =>
    intro m a b c d hl h
    have hx := hl x (by simp)
    cases m with
    | zero =>
      simp only [List.getElem?_cons_zero, Option.some.injEq] at h
      subst h
      simp [vecsC]
    | succ m =>
      have := ih m a b c d (fun c hc => hl c (by simp [hc])) (by simpa using h)
      have hlen : (x.map (Value.int .i32)).length = 4 := by simpa using hx
      unfold vecsC at this ⊢
      rw [List.flatMap_cons]
      refine ⟨?_, ?_, ?_, ?_⟩
      · rw [List.getElem?_append_right (by rw [hlen]; omega), hlen, show (m + 1) * 4 - 4 = m * 4 by omega]; exact this.1
      · rw [List.getElem?_append_right (by rw [hlen]; omega), hlen, show (m + 1) * 4 + 1 - 4 = m * 4 + 1 by omega]; exact this.2.1
      · rw [List.getElem?_append_right (by rw [hlen]; omega), hlen, show (m + 1) * 4 + 2 - 4 = m * 4 + 2 by omega]; exact this.2.2.1
      · rw [List.getElem?_append_right (by rw [hlen]; omega), hlen, show (m + 1) * 4 + 3 - 4 = m * 4 + 3 by omega]; exact this.2.2.2
theorem layB_succ (n : Nat) (L : List (List Int)) (m : Nat) (c : List Int) (h : L[m]? = some c) : layB n (L.take (m + 1)) = layB n (L.take m) ++ lowB (packX n c) (szN n) := by
  unfold layB
  rw [List.take_add_one, h, List.flatMap_append]
  simp

theorem lay_bad (n : Int) (v : Value) (w : World) (hn : n < 1 ∨ 8 ≤ n) : Calls Try.prog 22 #[.int .i64 n, v] w fun e w' => e = .returned (.tuple #[.slice none 0 0, .int .i64 2]) ∧ Ext w w' := by
  have HS := Lib.hid (fun w => Size_any n w)
  rw [show szV n = 0 by unfold szV; rw [if_neg (by omega), if_neg (by omega), if_neg (by omega)]] at HS
  clear hn
  go_enter Try.func22, Try.ntmps22
  go_wp2_with (go_at_call 14; refine (HS.out _).mono ?_; rintro e w1 ⟨rfl, hx1⟩)
  go_ret2
  exact ⟨rfl, hx1⟩

set_option maxHeartbeats 4000000 in
set_option maxRecDepth 20000 in
theorem lay_any (n : Nat) (v : Value) (L : List (List Int)) (w : World) (h1 : 1 ≤ n) (h7 : n ≤ 7) (h : SlC w v 4 L.length (vecsC L)) (hv : ∀ c ∈ L, VecOk c) (hq : L.length ≤ 5000) : Calls Try.prog 22 #[.int .i64 (n : Int), v] w fun e w' => ∃ a cap, e = .returned (.tuple #[.slice a (L.length * szN n) cap, .int .i64 0]) ∧ w'.ownsRow w.heap.size 5 1 (.slice a (L.length * szN n) cap) (L.length * szN n) ((layB n L).map (Value.int .u8)) ∧ Ext w w' := by
  obtain ⟨i0, hi, hi0, hi1, hi2⟩ := info_parts info_u8
  obtain ⟨hlen, a, cap, rfl, hn, hc, hz, hp⟩ := h
  have HS := Lib.hid (fun w => Size_any n w)
  rw [szN_V n h1 h7] at HS
  have hs := szN_bd n
  have HP : Hid (∀ c, VecOk c → ∀ w, Calls Try.prog 13 #[.int .i64 (n : Int), .agg (vecC c)] w fun e w' => ∃ a cap, e = .returned (.tuple #[.slice a (szN n) cap, .int .i64 0]) ∧ Ints .u8 w' (.slice a (szN n) cap) (lowB (packX n c) (szN n)) ∧ Ext w w') := fun c hc w => pack_any n c w h1 h7 hc.1 hc.2
  have hls := Lib.hid (layB_succ n L)
  generalize szN n = S at *
  have hz0 : ((S : Int) == 0) = false := by simp; omega
  clear hlen
  go_enter Try.func22, Try.ntmps22
  go_wp2_with (go_at_call 14; refine (HS.out _).mono ?_; rintro e w1 ⟨rfl, hx1⟩)
  go_loopw [6, 16] (fun out i wr => ∃ m : Nat, m ≤ L.length ∧ i = .int .i64 m ∧ wr.ownsRow w.heap.size 5 1 out (m * S) ((layB n (L.take m)).map (Value.int .u8)) ∧ Ext w wr) (fun _ i _ => L.length - (intOf i).toNat)
  case atStart => exact ⟨0, Nat.zero_le _, rfl, by simpa [layB] using World.ownsRow_nil _ _ _ _, hx1⟩
  case round =>
    obtain ⟨m, hm, rfl, hown, hx⟩ := hrel
    obtain ⟨al, cl, rfl⟩ := owns_slice hown
    by_cases hlt : m < L.length
    · obtain ⟨b, off, rfl, hb, hcell⟩ := hp (by omega)
      obtain ⟨c, hcm⟩ : ∃ c, L[m]? = some c := ⟨L[m], List.getElem?_eq_getElem hlt⟩
      have hvc := hv c (List.mem_of_getElem? hcm)
      have hpk := Lib.hid (HP.out c hvc)
      have hsucc := Lib.hid (hls.out m c hcm)
      obtain ⟨c0, c1, c2, c3, rfl⟩ : ∃ c0 c1 c2 c3, c = [c0, c1, c2, c3] := by
        match c, hvc.1 with
        | [c0, c1, c2, c3], _ => exact ⟨c0, c1, c2, c3, rfl⟩
      rw [vecC4] at hpk
      obtain ⟨k0, k1, k2, k3⟩ := vecs_at L m c0 c1 c2 c3 (fun c hc => (hv c hc).1) hcm
      have e0 := hx.cell (hcell _ _ k0)
      have e1 := hx.cell (hcell _ _ k1)
      have e2 := hx.cell (hcell _ _ k2)
      have e3 := hx.cell (hcell _ _ k3)
      rw [← Nat.add_assoc] at e1 e2 e3
      have hml : (m : Int) < (L.length : Int) := by omega
      have hxs := hx.size
      have hbw : b < wr.heap.size := by omega
      have HX := Lib.hid hx
      have hmS : m * S ≤ 5000 * S := Nat.mul_le_mul_right S (by omega)
      generalize lowB (packX n [c0, c1, c2, c3]) S = B at *
      clear k0 k1 k2 k3 hcell hcm hvc hx
      go_wp2_with (first | (go_at_call 13; refine (hpk.out _).mono ?_; rintro e w3 ⟨a3, cap3, rfl, hi3, hx3⟩; have hxs3 := hx3.size; rw [World.size_alloc] at hxs3; have hown3 := ownsRow_ext (hown.alloc _) hx3; obtain ⟨b3, off3, rfl, hb3, hcell3⟩ := hi3.pos (by have := hi3.cap.1; omega); have hB := Lib.hid hi3.cap.1; clear hi3) | (at_builtin; refine wpList_append_own _ rfl _ _ 22 rfl w.heap.size 5 i0 (.int .u8 0) 1 1 Try.underlying22 hi hi0 hi1 hi2 rfl (by decide) _ _ _ rfl hown3 ⟨b3, off3, none⟩ S cap3 (B.map (Value.int .u8)) rfl ?c0 ?c1 ?c2 ?c3 ?c4 ?c5 ?_))
      case c0 => have := hB.out; simp; omega
      case c1 =>
        intro j u hu
        rw [Addr.add_lit]
        rw [List.getElem?_map] at hu
        obtain ⟨z, hz1, rfl⟩ := Option.map_eq_some_iff.1 hu
        have hj := (List.getElem?_eq_some_iff.1 hz1).1
        have := hcell3 j hj
        rw [List.getD_eq_getElem?_getD, hz1] at this
        exact this
      case c2 => exact int_one
      case c3 => unfold maxLen; omega
      case c4 => omega
      case c5 => omega
      intro v' w5 hown' hgrow _
      have hx5 := Lib.hid (((HX.out.alloc _).trans hx3).grown hgrow (fun j hj => (hown3.lt j hj).1))
      have hown5 := Lib.hid (show w5.ownsRow w.heap.size 5 1 v' ((m + 1) * S) ((layB n (L.take (m + 1))).map (Value.int .u8)) by rw [hsucc.out, List.map_append, Nat.succ_mul]; exact hown')
      clear hown' hgrow hown hown3
      go_wp2_with fail
      go_roundw
      case rel => exact ⟨m + 1, by omega, by go_num, hown5.out, hx5.out⟩
      case measure => simp [intOf]; omega
    · obtain rfl : m = L.length := by omega
      rw [List.take_length] at hown
      clear hlt hm
      go_wp2_with fail
      go_ret2
      exact ⟨_, _, rfl, hown, hx⟩
end Go.Proofs.Ytjjofmammcnagaa
