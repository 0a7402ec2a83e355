/- Contract of the document's Row. Conditions: each theorem's own premises. -/
import Derived.Test.YtgbcngmciabpkaaFet21
namespace Go.Proofs.Ytgbcngmciabpkaa
open Go.RowKit Go.ChangeShapes
set_option linter.unusedVariables false
attribute [local go_sem ↓] Ld_Vc St_Vc Ld_Ar
set_option maxHeartbeats 4000000 in
set_option maxRecDepth 100000 in
theorem rrow_good (v : Value) (bs : List Int) (a : Arr) (f : Int) (n : Nat) (w : World) (h : Ints .u8 w v bs) (hb : bs.length ≤ 100000) (ha : arrOk a = true) (hf1 : 0 ≤ f) (hf2 : f ≤ 65535) (hn : n ≤ 256) :
    Calls Try.prog 23 #[v, .agg a.C.toArray, .int .i64 f, .int .i64 n] w fun e w' => ∃ p cap, e = .returned (.tuple #[.slice p (gN (rowOk bs a f n) n) cap, .int .i64 (gE (rowOk bs a f n))]) ∧
      w'.ownsRow w.heap.size 29 4 (.slice p (gN (rowOk bs a f n) n) cap) (gN (rowOk bs a f n) n) (rowC bs a f (gN (rowOk bs a f n) n)) ∧ Ext w w' := by
  obtain ⟨i0, hi, hz0, hz1, hz2⟩ := info_parts info_vec3
  obtain ⟨w0, hw0, ha0, hx0⟩ : ∃ w0, w.alloc (.cells a.C.toArray 24) = w0 ∧ AAt w0 w.heap.size a ∧ Ext w w0 := ⟨_, rfl, heap_alloc_new _ _, (Ext.refl _).alloc _⟩
  have HW0 := Lib.hid hw0
  have HA0 := Lib.hid ha0
  have HX0 := Lib.hid hx0
  have HIN := Lib.hid h
  have hl0 := ha0.load
  have n0 := heap_lt ha0
  clear hw0 ha0 hx0 h
  have HCK : Hid (∀ w, Calls Try.prog 13 #[.agg a.C.toArray] w fun e w' => e = .returned (.bool true) ∧ Ext w w') := Lib.hid (fun w => by have := rright_any a w; rw [ha] at this; exact this)
  have hnB : (n : Int) ≤ 65535 := by omega
  have hn256 : ¬ (256 : Int) < (n : Int) := by omega
  go_enter Try.func23, Try.ntmps23
  go_upto_region 1 with fail
  rw [HW0.out]
  generalize hb0 : w.heap.size = b0 at *
  have HB0 := Lib.hid hb0
  clear hb0 HW0
  go_upto_region 7 with (first | (go_at_call 13; refine (HCK.out _).mono ?_; rintro _ w5 ⟨rfl, hx5⟩; have HX5 := Lib.hid (HX0.out.trans hx5); have HA5 := Lib.hid (HA0.out.ext hx5); clear hx5))
  go_loopw [10, 38] (fun o i wr => ∃ (k : Nat) (p : Option Addr) (c : Nat), k ≤ n ∧ i = .int .i64 k ∧ o = .slice p k c ∧ rowOk bs a f k = true ∧ wr.ownsRow w5.heap.size 29 4 (.slice p k c) k (rowC bs a f k) ∧ Ext w5 wr) (fun _ i _ => n - (intOf i).toNat)
  case atStart => exact ⟨0, none, 0, Nat.zero_le _, rfl, rfl, rfl, World.ownsRow_nil _ _ _ _, Ext.refl _⟩
  case round =>
    rename World => wr
    obtain ⟨k, p, c, hk, rfl, rfl, hok, hown, hx⟩ := hrel
    have HIN5 := Lib.hid ((HIN.out.ext HX5.out).ext hx)
    have HXR := Lib.hid (HX5.out.trans hx)
    have HOWN := Lib.hid hown
    have HXL := Lib.hid hx
    have hl5 := (HA5.out.ext hx).load
    have n5 := heap_lt (HA5.out.ext hx)
    have hxs := (HX5.out.trans hx).size
    rw [HB0.out] at hxs
    clear hown hx
    by_cases hlt : k < n
    · have hki : (k : Int) < (n : Int) := by omega
      obtain ⟨g, hg⟩ : ∃ g, f + (k : Int) = g := ⟨_, rfl⟩
      have s1 : IntKind.i64.wrap (f + (k : Int)) = g := by rw [IntWalk.i64_in _ (by omega)]; exact hg
      have HSUC := Lib.hid (rowC_succ bs a f k)
      have HOKS := Lib.hid (rowOk_succ bs a f k)
      rw [hg] at HSUC HOKS
      obtain ⟨v0, v1, v2, v3, hv⟩ := four (vxV_len bs a g)
      have HVX := Lib.hid (fun w (h : Ints .u8 w v bs) => rvertex_any v bs a g w h hb ha (by omega) (by omega))
      rw [hv] at HVX HSUC
      have HG := Lib.hid hg
      clear hv hg
      cases hvk : vxOk bs a g
      · have HVX' : Hid (∀ (w : World), Ints .u8 w v bs → Calls Try.prog 14 #[v, .agg a.C.toArray, .int .i64 g] w fun e w' => e = .returned (.tuple #[.agg #[.int .i32 v0, .int .i32 v1, .int .i32 v2, .int .i32 v3], .bool false]) ∧ Ext w w') := Lib.hid (fun w h => by have := HVX.out w h; rw [hvk] at this; exact this)
        have HNO := Lib.hid (rowOk_no (n := n) hlt (by rw [HG.out]; exact hvk))
        clear hvk hlt hok
        go_wp2_with (go_at_call 14; refine (HVX'.out _ HIN5.out).mono ?_; rintro _ w6 ⟨rfl, hx6⟩; obtain ⟨w7, hst7, h7, hx7⟩ := newV4 w6 v0 v1 v2 v3; have HX7 := Lib.hid (hx6.trans hx7); have hl7 := h7.load4; have n7 := heap_lt h7; have hsz7 := (hx6.trans hx7).size; clear hx6 hx7)
        go_ret2
        exact ⟨none, 0, by rw [HNO.out]; rfl, by rw [HNO.out]; exact World.ownsRow_nil _ _ _ _, HXR.out.trans HX7.out⟩
      · have HVX' : Hid (∀ (w : World), Ints .u8 w v bs → Calls Try.prog 14 #[v, .agg a.C.toArray, .int .i64 g] w fun e w' => e = .returned (.tuple #[.agg #[.int .i32 v0, .int .i32 v1, .int .i32 v2, .int .i32 v3], .bool true]) ∧ Ext w w') := Lib.hid (fun w h => by have := HVX.out w h; rw [hvk] at this; exact this)
        have HOK' : Hid (rowOk bs a f (k + 1) = true) := Lib.hid (by rw [HOKS.out, hok, hvk]; rfl)
        clear hvk hok
        have hm1 : k + 1 ≤ maxLen := by unfold maxLen; omega
        have hm3 : (k + 1) * 16 ≤ 140737488355328 := by omega
        go_wp2_with (first | (go_at_call 14; refine (HVX'.out _ HIN5.out).mono ?_; rintro _ w6 ⟨rfl, hx6⟩; obtain ⟨w7, hst7, h7, hx7⟩ := newV4 w6 v0 v1 v2 v3; have HX7 := Lib.hid (hx6.trans hx7); have hl7 := h7.load4; have n7 := heap_lt h7; have hsz7 := (hx6.trans hx7).size; clear hx6 hx7) | (at_builtin; refine wpList_append_own _ rfl _ _ 59 rfl w5.heap.size 29 i0 (.agg #[.int .i32 0, .int .i32 0, .int .i32 0, .int .i32 0]) 4 16 Try.underlying59 hi hz0 hz1 hz2 rfl (by decide) _ _ _ rfl ((ownsRow_turn HOWN.out (HX7.out.turn 0)).alloc _) ⟨w7.heap.size, 0, none⟩ 1 1 [.int .i32 v0, .int .i32 v1, .int .i32 v2, .int .i32 v3] rfl rfl (World.news_of_block (heap_alloc_new _ _)) one_vec hm1 hm3 (by have := HXL.out.size; simp; omega) ?_))
        intro v8 w8 hown8 hgrow8 _
        obtain ⟨a8, c8, rfl⟩ := owns_slice hown8
        have HX8 := Lib.hid (((HXL.out.trans HX7.out).alloc _).grown hgrow8 (fun j hj => (HOWN.out.lt j hj).1))
        have HOWN8 := Lib.hid hown8
        clear hown8 hgrow8
        go_wp2_with fail
        go_roundw
        case rel => exact ⟨k + 1, _, _, by omega, by go_num, rfl, HOK'.out, by rw [HSUC.out]; exact HOWN8.out, HX8.out⟩
        case measure => simp [intOf]; omega
    · obtain rfl : k = n := by omega
      clear hlt
      go_wp2_with fail
      go_ret2
      exact ⟨p, c, by rw [hok]; rfl, by rw [hok]; exact own_base HOWN.out (by have := HX5.out.size; omega), HXR.out⟩
set_option maxRecDepth 100000 in
theorem rrow_bad (v : Value) (a : Arr) (f n : Int) (w : World) (h : rwOk a f n = false) :
    Calls Try.prog 23 #[v, .agg a.C.toArray, .int .i64 f, .int .i64 n] w fun e w' => e = .returned (.tuple #[.slice none 0 0, .int .i64 2]) ∧ Ext w w' := by
  obtain ⟨w0, hw0, ha0, hx0⟩ : ∃ w0, w.alloc (.cells a.C.toArray 24) = w0 ∧ AAt w0 w.heap.size a ∧ Ext w w0 := ⟨_, rfl, heap_alloc_new _ _, (Ext.refl _).alloc _⟩
  have HW0 := Lib.hid hw0
  have HA0 := Lib.hid ha0
  have HX0 := Lib.hid hx0
  have hl0 := ha0.load
  have n0 := heap_lt ha0
  clear hw0 ha0 hx0
  have HCK := Lib.hid (fun w => rright_any a w)
  unfold rwOk at h
  cases ho : arrOk a
  · rw [ho] at HCK
    clear h ho
    go_enter Try.func23, Try.ntmps23
    go_upto_region 1 with fail
    rw [HW0.out]
    generalize hb0 : w.heap.size = b0 at *
    have HB0 := Lib.hid hb0
    clear hb0 HW0
    go_wp2_with (first | (go_at_call 13; refine (HCK.out _).mono ?_; rintro _ w5 ⟨rfl, hx5⟩; have HX5 := Lib.hid (HX0.out.trans hx5); have HA5 := Lib.hid (HA0.out.ext hx5); clear hx5))
    go_ret2
    exact ⟨rfl, HX5.out⟩
  · rw [ho] at HCK h
    clear ho
    rcases Int.lt_or_le f 0 with h1 | h1
    · clear h
      go_enter Try.func23, Try.ntmps23
      go_upto_region 1 with fail
      rw [HW0.out]
      generalize hb0 : w.heap.size = b0 at *
      have HB0 := Lib.hid hb0
      clear hb0 HW0
      go_wp2_with (first | (go_at_call 13; refine (HCK.out _).mono ?_; rintro _ w5 ⟨rfl, hx5⟩; have HX5 := Lib.hid (HX0.out.trans hx5); have HA5 := Lib.hid (HA0.out.ext hx5); clear hx5))
      go_ret2
      exact ⟨rfl, HX5.out⟩
    rcases Int.lt_or_le 65535 f with h2 | h2
    · clear h
      go_enter Try.func23, Try.ntmps23
      go_upto_region 1 with fail
      rw [HW0.out]
      generalize hb0 : w.heap.size = b0 at *
      have HB0 := Lib.hid hb0
      clear hb0 HW0
      go_wp2_with (first | (go_at_call 13; refine (HCK.out _).mono ?_; rintro _ w5 ⟨rfl, hx5⟩; have HX5 := Lib.hid (HX0.out.trans hx5); have HA5 := Lib.hid (HA0.out.ext hx5); clear hx5))
      go_ret2
      exact ⟨rfl, HX5.out⟩
    rcases Int.lt_or_le n 0 with h3 | h3
    · clear h
      go_enter Try.func23, Try.ntmps23
      go_upto_region 1 with fail
      rw [HW0.out]
      generalize hb0 : w.heap.size = b0 at *
      have HB0 := Lib.hid hb0
      clear hb0 HW0
      go_wp2_with (first | (go_at_call 13; refine (HCK.out _).mono ?_; rintro _ w5 ⟨rfl, hx5⟩; have HX5 := Lib.hid (HX0.out.trans hx5); have HA5 := Lib.hid (HA0.out.ext hx5); clear hx5))
      go_ret2
      exact ⟨rfl, HX5.out⟩
    rcases Int.lt_or_le 65535 n with h4 | h4
    · clear h
      go_enter Try.func23, Try.ntmps23
      go_upto_region 1 with fail
      rw [HW0.out]
      generalize hb0 : w.heap.size = b0 at *
      have HB0 := Lib.hid hb0
      clear hb0 HW0
      go_wp2_with (first | (go_at_call 13; refine (HCK.out _).mono ?_; rintro _ w5 ⟨rfl, hx5⟩; have HX5 := Lib.hid (HX0.out.trans hx5); have HA5 := Lib.hid (HA0.out.ext hx5); clear hx5))
      go_ret2
      exact ⟨rfl, HX5.out⟩
    · rw [decide_eq_true h1, decide_eq_true h2, decide_eq_true h3, decide_eq_true h4] at h
      cases h
set_option maxRecDepth 100000 in
theorem rrow_long (v : Value) (a : Arr) (f n : Int) (w : World) (ha : arrOk a = true) (hf1 : 0 ≤ f) (hf2 : f ≤ 65535) (h1 : 256 < n) (h2 : n ≤ 65535) :
    Calls Try.prog 23 #[v, .agg a.C.toArray, .int .i64 f, .int .i64 n] w fun e w' => e = .returned (.tuple #[.slice none 0 0, .int .i64 3]) ∧ Ext w w' := by
  obtain ⟨w0, hw0, ha0, hx0⟩ : ∃ w0, w.alloc (.cells a.C.toArray 24) = w0 ∧ AAt w0 w.heap.size a ∧ Ext w w0 := ⟨_, rfl, heap_alloc_new _ _, (Ext.refl _).alloc _⟩
  have HW0 := Lib.hid hw0
  have HA0 := Lib.hid ha0
  have HX0 := Lib.hid hx0
  have hl0 := ha0.load
  have n0 := heap_lt ha0
  clear hw0 ha0 hx0
  have HCK : Hid (∀ w, Calls Try.prog 13 #[.agg a.C.toArray] w fun e w' => e = .returned (.bool true) ∧ Ext w w') := Lib.hid (fun w => by have := rright_any a w; rw [ha] at this; exact this)
  have h0 : 0 ≤ n := by omega
  go_enter Try.func23, Try.ntmps23
  go_upto_region 1 with fail
  rw [HW0.out]
  generalize hb0 : w.heap.size = b0 at *
  have HB0 := Lib.hid hb0
  clear hb0 HW0
  go_wp2_with (first | (go_at_call 13; refine (HCK.out _).mono ?_; rintro _ w5 ⟨rfl, hx5⟩; have HX5 := Lib.hid (HX0.out.trans hx5); have HA5 := Lib.hid (HA0.out.ext hx5); clear hx5))
  go_ret2
  exact ⟨rfl, HX5.out⟩
theorem rrow_any (v : Value) (bs : List Int) (a : Arr) (f n : Int) (w : World) (h : Ints .u8 w v bs) (hb : bs.length ≤ 100000) :
    Calls Try.prog 23 #[v, .agg a.C.toArray, .int .i64 f, .int .i64 n] w fun e w' => ∃ p cap, e = .returned (.tuple #[.slice p (rowN bs a f n) cap, .int .i64 (rowE bs a f n)]) ∧
      w'.ownsRow w.heap.size 29 4 (.slice p (rowN bs a f n) cap) (rowN bs a f n) (rowC bs a f (rowN bs a f n)) ∧ Ext w w' := by
  cases hr : rwOk a f n
  · refine (rrow_bad v a f n w hr).mono ?_
    rintro e w' ⟨rfl, hx⟩
    refine ⟨none, 0, ?_, ?_, hx⟩
    · unfold rowN rowE; rw [hr]; rfl
    · unfold rowN; rw [hr]; exact World.ownsRow_nil _ _ _ _
  · have hr' := hr
    unfold rwOk at hr'
    simp only [Bool.and_eq_true, decide_eq_true_eq] at hr'
    obtain ⟨⟨h1, h2, h3⟩, h4, h5⟩ := hr'
    by_cases h6 : n ≤ 256
    · obtain ⟨m, rfl⟩ : ∃ m : Nat, n = m := ⟨n.toNat, by omega⟩
      refine (rrow_good v bs a f m w h hb h1 h2 h3 (by omega)).mono ?_
      rintro e w' ⟨p, cap, rfl, ho, hx⟩
      have e1 : rowN bs a f m = gN (rowOk bs a f m) m := by
        unfold rowN
        rw [hr, decide_eq_true h6, Int.toNat_natCast]
        rfl
      have e2 : rowE bs a f m = gE (rowOk bs a f m) := by
        unfold rowE
        rw [hr, if_pos rfl, if_pos h6, Int.toNat_natCast]
        rfl
      rw [e1, e2]
      exact ⟨p, cap, rfl, ho, hx⟩
    · refine (rrow_long v a f n w h1 h2 h3 (by omega) h5).mono ?_
      rintro e w' ⟨rfl, hx⟩
      have e1 : rowN bs a f n = 0 := by unfold rowN; rw [decide_eq_false h6]; simp
      have e2 : rowE bs a f n = 3 := by unfold rowE; rw [hr, if_pos rfl, if_neg h6]
      rw [e1, e2]
      exact ⟨none, 0, rfl, World.ownsRow_nil _ _ _ _, hx⟩
end Go.Proofs.Ytgbcngmciabpkaa
