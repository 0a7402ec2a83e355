/- The contract of pixel's Row. Conditions: each theorem's own premises. -/
import Derived.Test.YtjjofmammcnagaaPix14
namespace Go.Proofs.Ytjjofmammcnagaa
open Go.RowKit
set_option linter.unusedVariables false

/-- The colour of the pixel number i. -/
def colAt (n s : Nat) (zs : List Int) (i : Nat) : List Int := unpV n (leN ((zs.drop (i * s)).take s))
def rowC (n s : Nat) (zs : List Int) (m : Nat) : List Value := (List.range m).flatMap fun i => (colAt n s zs i).map (Value.int .i32)
theorem rowC_succ (n s : Nat) (zs : List Int) (m : Nat) : rowC n s zs (m + 1) = rowC n s zs m ++ (colAt n s zs m).map (Value.int .i32) := by
  unfold rowC
  rw [List.range_succ, List.flatMap_append]
  simp
theorem rowC_length (n s : Nat) (zs : List Int) (m : Nat) : (rowC n s zs m).length = m * 4 := by
  induction m with
  | zero => rfl
  | succ m ih =>
    rw [rowC_succ, List.length_append, ih]
    obtain ⟨a, b, c, d, h⟩ := unpV_four n (leN ((zs.drop (m * s)).take s))
    unfold colAt
    rw [h]
    simp
    omega
theorem info_vec3 : (Try.prog.info? 26).map (fun i => (i.zero, i.size, i.bytes)) = some (some (.agg #[.int .i32 0, .int .i32 0, .int .i32 0, .int .i32 0]), 4, 16) := by kernel_rfl

theorem ownsRow_ext {w w' : World} {base sz n : Nat} {e : TypeId} {v : Value} {xs : List Value} (h : w.ownsRow base e sz v n xs) (x : Ext w w') : w'.ownsRow base e sz v n xs := by
  refine ⟨h.1, ?_⟩
  rcases h.2 with hn | ⟨g, cap, cur, hv, hb, hg, rest⟩
  · exact .inl hn
  · exact .inr ⟨g, cap, cur, hv, hb, x.heap hg, rest⟩

theorem hbi_cut {k : IntKind} {w : World} {a : Option Addr} {n cap : Nat} {zs : List Int} (h : Ints k w (.slice a n cap) zs) (l : Nat) (hl : l ≤ n) : Ints k w (.slice (if cap = l then a else a.map (·.add l)) (n - l) (cap - l)) (zs.drop l) := by
  obtain ⟨rfl, _⟩ := h.cap
  have := h.cut l zs.length hl (Nat.le_refl _)
  rwa [List.take_of_length_le (by simp)] at this

theorem row_bad (n : Int) (v : Value) (w : World) (hn : n < 1 ∨ 8 ≤ n) : Calls Try.prog 21 #[.int .i64 n, v] w fun e w' => e = .returned (.tuple #[.slice none 0 0, .int .i64 2]) ∧ Ext w w' := by
  have HS := Lib.hid (fun w => Size_any n w)
  rw [show szV n = 0 by unfold szV; rw [if_neg (by omega), if_neg (by omega), if_neg (by omega)]] at HS
  clear hn
  go_enter Try.func21, Try.ntmps21
  go_wp2_with (go_at_call 14; refine (HS.out _).mono ?_; rintro e w1 ⟨rfl, hx1⟩)
  go_ret2
  exact ⟨rfl, hx1⟩
theorem row_short (n : Nat) (v : Value) (zs : List Int) (w : World) (h1 : 1 ≤ n) (h7 : n ≤ 7) (h : Ints .u8 w v zs) (hl : zs.length % szN n ≠ 0) : Calls Try.prog 21 #[.int .i64 (n : Int), v] w fun e w' => e = .returned (.tuple #[.slice none 0 0, .int .i64 7]) ∧ Ext w w' := by
  obtain ⟨a, cap, rfl⟩ : ∃ a cap, v = .slice a zs.length cap := by obtain ⟨⟨_, a, cap, rfl, _⟩, _⟩ := h; exact ⟨a, cap, rfl⟩
  have HS := Lib.hid (fun w => Size_any n w)
  rw [szN_V n h1 h7] at HS
  have hs := szN_bd n
  generalize szN n = S at *
  have hz0 : ((S : Int) == 0) = false := by simp; omega
  have hz1 : ¬ (S : Int) = 0 := by omega
  have hr : ((zs.length : Int) % (S : Int) != 0) = true := by
    have : ¬ (zs.length : Int) % (S : Int) = 0 := by omega
    simpa using this
  have hr2 : ((zs.length : Int).tmod (S : Int) != 0) = true := by rw [Int.tmod_eq_emod_of_nonneg (by omega)]; exact hr
  clear hl h
  go_enter Try.func21, Try.ntmps21
  go_wp2_with (go_at_call 14; refine (HS.out _).mono ?_; rintro e w1 ⟨rfl, hx1⟩)
  go_ret2
  exact ⟨rfl, hx1⟩

set_option maxHeartbeats 4000000 in
set_option maxRecDepth 20000 in
theorem row_any (n q : Nat) (v : Value) (zs : List Int) (w : World) (h1 : 1 ≤ n) (h7 : n ≤ 7) (h : Ints .u8 w v zs) (hl : zs.length = q * szN n) (hq : q ≤ 5000) : Calls Try.prog 21 #[.int .i64 (n : Int), v] w fun e w' => ∃ a cap, e = .returned (.tuple #[.slice a q cap, .int .i64 0]) ∧ w'.ownsRow w.heap.size 26 4 (.slice a q cap) q (rowC n (szN n) zs q) ∧ Ext w w' := by
  obtain ⟨i0, hi, hi0, hi1, hi2⟩ := info_parts info_vec3
  obtain ⟨a, cap, rfl⟩ : ∃ a cap, v = .slice a zs.length cap := by obtain ⟨⟨_, a, cap, rfl, _⟩, _⟩ := h; exact ⟨a, cap, rfl⟩
  have HS := Lib.hid (fun w => Size_any n w)
  rw [szN_V n h1 h7] at HS
  have hs := szN_bd n
  have HV := Lib.hid (szN_V n h1 h7)
  generalize szN n = S at *
  have hz0 : ((S : Int) == 0) = false := by simp; omega
  have hz1 : ¬ (S : Int) = 0 := by omega
  have hr : ((zs.length : Int) % (S : Int) != 0) = false := by
    have : (zs.length : Int) % (S : Int) = 0 := by rw [hl]; simp
    simpa using this
  have hr2 : ((zs.length : Int).tmod (S : Int) != 0) = false := by rw [Int.tmod_eq_emod_of_nonneg (by omega)]; exact hr
  have HL := Lib.hid hl
  have HI := Lib.hid h
  clear hl h
  go_enter Try.func21, Try.ntmps21
  go_wp2_with (go_at_call 14; refine (HS.out _).mono ?_; rintro e w1 ⟨rfl, hx1⟩)
  have hb0 := hx1.size
  go_loopw [1, 7] (fun b l wr => ∃ (m : Nat) (a' : Option Addr) (cap' : Nat), m ≤ q ∧ b = .slice a' ((q - m) * S) cap' ∧ Ints .u8 w b (zs.drop (m * S)) ∧ wr.ownsRow w.heap.size 26 4 l m (rowC n S zs m) ∧ Ext w wr) (fun b _ _ => match b with | .slice _ k _ => k | _ => 0)
  case atStart => exact ⟨0, a, cap, Nat.zero_le _, by rw [HL.out]; simp, by rw [Nat.zero_mul, List.drop_zero]; exact HI.out, World.ownsRow_nil _ _ _ _, hx1⟩
  case round =>
    obtain ⟨m, a', cap', hm, rfl, hbi, hown, hx⟩ := hrel
    obtain ⟨al, cl, rfl⟩ := owns_slice hown
    by_cases hlt : m < q
    · obtain ⟨hc1, hc2, hc3, hc4⟩ := hbi.cap
      have hKS : S ≤ (q - m) * S := Nat.le_mul_of_pos_left S (by omega)
      have hnext := Lib.hid (show (q - m) * S - S = (q - (m + 1)) * S by rw [← Nat.sub_sub, Nat.sub_mul (q - m), Nat.one_mul])
      have hdrop := Lib.hid (show (zs.drop (m * S)).drop S = zs.drop ((m + 1) * S) by rw [List.drop_drop, Nat.succ_mul])
      have hchunk := Lib.hid (show colAt n S zs m = unpV n (leN ((zs.drop (m * S)).take S)) from rfl)
      have hsucc := Lib.hid (rowC_succ n S zs m)
      have hlen := rowC_length n S zs m
      generalize hK : (q - m) * S = K at *
      have hlenD : (zs.drop (m * S)).length = K := hc1.symm
      obtain ⟨b, off, rfl, hb, hcell⟩ := hbi.pos (by omega)
      have hchI := Lib.hid (hbi.top S (by omega) (show S ≤ (zs.drop (m * S)).length by omega))
      have hcut := Lib.hid (hbi_cut hbi S hKS)
      have hU := Lib.hid (fun w' (x' : Ext w w') => unpack_any n _ _ w' h1 h7 (hchI.out.ext x') (by rw [HV.out, List.length_take, hlenD, Nat.min_eq_left hKS]))
      obtain ⟨t0, t1, t2, t3, ht⟩ := unpV_four n (leN ((zs.drop (m * S)).take S))
      rw [ht, vecC4] at hU
      rw [ht] at hchunk
      have HT := Lib.hid ht
      have hK1 : (S : Int) ≤ (K : Int) := by omega
      have hK2 : (K : Int) ≤ (cap' : Int) := by omega
      have hK3 : (S : Int) ≤ (cap' : Int) := by omega
      have hK4 : (0 : Int) < (K : Int) := by omega
      have hS0 : (0 : Int) ≤ (S : Int) := by omega
      have HX := Lib.hid hx
      have HK := Lib.hid hK
      have hxs := hx.size
      clear hbi hcell ht hK hx hc1
      go_wp2_with (first | (go_at_call 10; refine (hU.out _ HX.out).mono ?_; rintro e w3 ⟨rfl, hx3⟩; have hown3 := ownsRow_ext hown hx3; have hxs3 := hx3.size) | (at_builtin; refine wpList_append_own _ rfl _ _ 48 rfl w.heap.size 26 i0 (.agg #[.int .i32 0, .int .i32 0, .int .i32 0, .int .i32 0]) 4 16 Try.underlying48 hi hi0 hi1 hi2 rfl (by decide) _ _ _ rfl ((hown3.alloc _).alloc _) ⟨w3.heap.size + 1, 0, none⟩ 1 1 [.int .i32 t0, .int .i32 t1, .int .i32 t2, .int .i32 t3] rfl ?c0 ?c1 ?c2 ?c3 ?c4 ?c5 ?_))
      case c0 => rfl
      case c1 =>
        intro j u hu
        have hnew := heap_alloc_new (w3.alloc (.cells #[.int .i32 t0, .int .i32 t1, .int .i32 t2, .int .i32 t3] 26)) (.cells #[.int .i32 t0, .int .i32 t1, .int .i32 t2, .int .i32 t3] 26)
        rw [World.size_alloc] at hnew
        rw [Addr.add_lit]
        exact cell_of_heap hnew (by simpa using hu)
      case c2 =>
        intro u hu
        simp only [List.mem_cons, List.not_mem_nil, or_false] at hu
        rcases hu with rfl | rfl | rfl | rfl <;> rfl
      case c3 => unfold maxLen; omega
      case c4 => omega
      case c5 => simp; omega
      intro v' w5 hown' hgrow _
      have hrow := ((hown3.alloc (.cells #[.int .i32 t0, .int .i32 t1, .int .i32 t2, .int .i32 t3] 26)).alloc (.cells #[.int .i32 t0, .int .i32 t1, .int .i32 t2, .int .i32 t3] 26)).lt
      have hx5 := Lib.hid ((((HX.out.trans hx3).alloc _).alloc _).grown hgrow (fun j hj => (hrow j hj).1))
      have hown5 := Lib.hid (show w5.ownsRow w.heap.size 26 4 v' (m + 1) (rowC n S zs (m + 1)) by rw [hsucc.out, hchunk.out]; exact hown')
      clear hown' hgrow hrow hown hown3
      go_wp2_with fail
      refine ⟨⟨m + 1, _, _, by omega, by rw [← hnext.out], ?_, hown5.out, hx5.out⟩, ?_⟩
      · have := hcut.out
        rw [hdrop.out] at this
        simpa [Addr.add_lit] using this
      · show K - S < K
        omega
    · obtain rfl : m = q := by omega
      have hK0 : (m - m) * S = 0 := by simp
      rw [hK0]
      clear hbi
      go_wp2_with fail
      go_ret2
      exact ⟨_, _, rfl, hown, hx⟩
end Go.Proofs.Ytjjofmammcnagaa
