/- Contracts of Row and of the document's. Conditions: each theorem's own premises. -/
import Derived.Test.YtgbcngmciabpkaaFet20
namespace Go.Proofs.Ytgbcngmciabpkaa
open Go.RowKit Go.ChangeShapes
set_option linter.unusedVariables false

theorem info_vec3 : (Try.prog.info? 29).map (fun i => (i.zero, i.size, i.bytes)) = some (some (.agg #[.int .i32 0, .int .i32 0, .int .i32 0, .int .i32 0]), 4, 16) := by kernel_rfl
/-- May each of the first k vertices be? -/
def rowOk (bs : List Int) (a : Arr) (f : Int) (k : Nat) : Bool := (List.range k).all fun (j : Nat) => vxOk bs a (f + (j : Int))
def rowC (bs : List Int) (a : Arr) (f : Int) (k : Nat) : List Value := ((List.range k).map fun (j : Nat) => vC (vxV bs a (f + (j : Int)))).flatten
theorem rowC_succ (bs : List Int) (a : Arr) (f : Int) (k : Nat) : rowC bs a f (k + 1) = rowC bs a f k ++ vC (vxV bs a (f + k)) := by unfold rowC; rw [List.range_succ, List.map_append, List.flatten_append]; simp
theorem rowOk_succ (bs : List Int) (a : Arr) (f : Int) (k : Nat) : rowOk bs a f (k + 1) = (rowOk bs a f k && vxOk bs a (f + k)) := by unfold rowOk; rw [List.range_succ, List.all_append]; simp
theorem rowOk_no {bs : List Int} {a : Arr} {f : Int} {k n : Nat} (hk : k < n) (h : vxOk bs a (f + k) = false) : rowOk bs a f n = false := by
  unfold rowOk
  rw [List.all_eq_false]
  exact ⟨k, List.mem_range.2 hk, by rw [h]; simp⟩
theorem one_vec {a b c d : Int} : ∀ u ∈ [Value.int .i32 a, Value.int .i32 b, Value.int .i32 c, Value.int .i32 d], u.oneCell' = true := by
  intro u hu
  simp only [List.mem_cons, List.not_mem_nil, or_false] at hu
  rcases hu with rfl | rfl | rfl | rfl <;> rfl
/-- May Row's arguments be? -/
def rwOk (a : Arr) (f n : Int) : Bool := arrOk a && (decide (0 ≤ f) && decide (f ≤ 65535)) && (decide (0 ≤ n) && decide (n ≤ 65535))
/-- What Row answers. -/
def gN (ok : Bool) (n : Nat) : Nat := if ok then n else 0
def gE (ok : Bool) : Int := if ok then 0 else 7
def rowN (bs : List Int) (a : Arr) (f n : Int) : Nat := if rwOk a f n && decide (n ≤ 256) && rowOk bs a f n.toNat then n.toNat else 0
def rowE (bs : List Int) (a : Arr) (f n : Int) : Int := if rwOk a f n then if n ≤ 256 then if rowOk bs a f n.toNat then 0 else 7 else 3 else 2
attribute [local go_sem ↓] Ld_Vc St_Vc Ld_Ar
theorem own_base {w : World} {B C sz n : Nat} {e : TypeId} {v : Value} {xs : List Value} (h : w.ownsRow B e sz v n xs) (hB : C ≤ B) : w.ownsRow C e sz v n xs := by
  refine ⟨h.1, ?_⟩
  rcases h.2 with hn | ⟨g, cap, cur, hv, hb, rest⟩
  · exact .inl hn
  · exact .inr ⟨g, cap, cur, hv, by omega, rest⟩
set_option maxHeartbeats 4000000 in
set_option maxRecDepth 100000 in
theorem row_good (v : Value) (bs : List Int) (a : Arr) (f : Int) (n : Nat) (w : World) (h : Ints .u8 w v bs) (hb : bs.length ≤ 100000) (ha : arrOk a = true) (hf1 : 0 ≤ f) (hf2 : f ≤ 65535) (hn : n ≤ 256) :
    Calls Try.prog 22 #[v, .agg a.C.toArray, .int .i64 f, .int .i64 n] w fun e w' => ∃ p cap, e = .returned (.tuple #[.slice p (gN (rowOk bs a f n) n) cap, .int .i64 (gE (rowOk bs a f n))]) ∧
      w'.ownsRow w.heap.size 29 4 (.slice p (gN (rowOk bs a f n) n) cap) (gN (rowOk bs a f n) n) (rowC bs a f (gN (rowOk bs a f n) n)) ∧ Ext w w' := by
  obtain ⟨i0, hi, hz0, hz1, hz2⟩ := info_parts info_vec3
  obtain ⟨w0, hw0, ha0, hx0⟩ : ∃ w0, w.alloc (.cells a.C.toArray 24) = w0 ∧ AAt w0 w.heap.size a ∧ Ext w w0 := ⟨_, rfl, heap_alloc_new _ _, (Ext.refl _).alloc _⟩
  have HW0 := Lib.hid hw0
  have HA0 := Lib.hid ha0
  have HX0 := Lib.hid hx0
  have HIN := Lib.hid h
  have hl0 := ha0.load
  have n0 := heap_lt ha0
  clear hw0 ha0 hx0 h
  have HCK : Hid (∀ w, Calls Try.prog 24 #[.agg a.C.toArray] w fun e w' => e = .returned (.int .i64 0) ∧ Ext w w') := Lib.hid (fun w => by have := check_any a w; rw [ha] at this; exact this)
  have hnB : (n : Int) ≤ 65535 := by omega
  have hn256 : ¬ (256 : Int) < (n : Int) := by omega
  have HB1 := Lib.hid (show (decide (0 ≤ f) && decide (f ≤ 65535)) = true by rw [decide_eq_true hf1, decide_eq_true hf2]; rfl)
  have HB2 := Lib.hid (show (decide ((0 : Int) ≤ (n : Int)) && decide ((n : Int) ≤ 65535)) = true by rw [decide_eq_true (by omega : (0 : Int) ≤ (n : Int)), decide_eq_true hnB]; rfl)
  go_enter Try.func22, Try.ntmps22
  go_upto_region 1 with fail
  rw [HW0.out]
  generalize hb0 : w.heap.size = b0 at *
  have HB0 := Lib.hid hb0
  clear hb0 HW0
  go_upto_region 7 with (first | (go_at_call 24; refine (HCK.out _).mono ?_; rintro _ w5 ⟨rfl, hx5⟩; have HX5 := Lib.hid (HX0.out.trans hx5); have HA5 := Lib.hid (HA0.out.ext hx5); clear hx5) | (go_at_call 26; refine (between_any _ _ _ _).mono ?_; (first | rw [HB1.out] | rw [HB2.out]);rintro _ _ ⟨rfl, rfl⟩))
  go_loopw [10, 32] (fun o i wr => ∃ (k : Nat) (p : Option Addr) (c : Nat), k ≤ n ∧ i = .int .i64 k ∧ o = .slice p k c ∧ rowOk bs a f k = true ∧ wr.ownsRow w5.heap.size 29 4 (.slice p k c) k (rowC bs a f k) ∧ Ext w5 wr) (fun _ i _ => n - (intOf i).toNat)
  case atStart => exact ⟨0, none, 0, Nat.zero_le _, rfl, rfl, rfl, World.ownsRow_nil _ _ _ _, Ext.refl _⟩
  case round =>
    rename World => wr
    obtain ⟨k, p, c, hk, rfl, rfl, hok, hown, hx⟩ := hrel
    have HIN5 := Lib.hid ((HIN.out.ext HX5.out).ext hx)
    have HXR := Lib.hid (HX5.out.trans hx)
    have HOWN := Lib.hid hown
    have HXL := Lib.hid hx
    have hl5 := (HA5.out.ext hx).load
    have n5 := heap_lt (HA5.out.ext hx)
    have hxs := (HX5.out.trans hx).size
    rw [HB0.out] at hxs
    clear hown hx
    by_cases hlt : k < n
    · have hki : (k : Int) < (n : Int) := by omega
      obtain ⟨g, hg⟩ : ∃ g, f + (k : Int) = g := ⟨_, rfl⟩
      have s1 : IntKind.i64.wrap (f + (k : Int)) = g := by rw [IntWalk.i64_in _ (by omega)]; exact hg
      have HSUC := Lib.hid (rowC_succ bs a f k)
      have HOKS := Lib.hid (rowOk_succ bs a f k)
      rw [hg] at HSUC HOKS
      obtain ⟨v0, v1, v2, v3, hv⟩ := four (vxV_len bs a g)
      have HVX := Lib.hid (fun w (h : Ints .u8 w v bs) => vertex_any v bs a g w h hb ha (by omega) (by omega))
      rw [hv] at HVX HSUC
      have HG := Lib.hid hg
      clear hv hg
      cases hvk : vxOk bs a g
      · have HVX' : Hid (∀ (w : World), Ints .u8 w v bs → Calls Try.prog 27 #[v, .agg a.C.toArray, .int .i64 g] w fun e w' => e = .returned (.tuple #[.agg #[.int .i32 v0, .int .i32 v1, .int .i32 v2, .int .i32 v3], .int .i64 7]) ∧ Ext w w') := Lib.hid (fun w h => by have := HVX.out w h; unfold vxE at this; rw [hvk] at this; exact this)
        have HNO := Lib.hid (rowOk_no (n := n) hlt (by rw [HG.out]; exact hvk))
        clear hvk hlt hok
        go_wp2_with (go_at_call 27; refine (HVX'.out _ HIN5.out).mono ?_; rintro _ w6 ⟨rfl, hx6⟩; obtain ⟨w7, hst7, h7, hx7⟩ := newV4 w6 v0 v1 v2 v3; have HX7 := Lib.hid (hx6.trans hx7); have hl7 := h7.load4; have n7 := heap_lt h7; have hsz7 := (hx6.trans hx7).size; clear hx6 hx7)
        go_ret2
        exact ⟨none, 0, by rw [HNO.out]; rfl, by rw [HNO.out]; exact World.ownsRow_nil _ _ _ _, HXR.out.trans HX7.out⟩
      · have HVX' : Hid (∀ (w : World), Ints .u8 w v bs → Calls Try.prog 27 #[v, .agg a.C.toArray, .int .i64 g] w fun e w' => e = .returned (.tuple #[.agg #[.int .i32 v0, .int .i32 v1, .int .i32 v2, .int .i32 v3], .int .i64 0]) ∧ Ext w w') := Lib.hid (fun w h => by have := HVX.out w h; unfold vxE at this; rw [hvk] at this; exact this)
        have HOK' : Hid (rowOk bs a f (k + 1) = true) := Lib.hid (by rw [HOKS.out, hok, hvk]; rfl)
        clear hvk hok
        have hm1 : k + 1 ≤ maxLen := by unfold maxLen; omega
        have hm3 : (k + 1) * 16 ≤ 140737488355328 := by omega
        go_wp2_with (first | (go_at_call 27; refine (HVX'.out _ HIN5.out).mono ?_; rintro _ w6 ⟨rfl, hx6⟩; obtain ⟨w7, hst7, h7, hx7⟩ := newV4 w6 v0 v1 v2 v3; have HX7 := Lib.hid (hx6.trans hx7); have hl7 := h7.load4; have n7 := heap_lt h7; have hsz7 := (hx6.trans hx7).size; clear hx6 hx7) | (at_builtin; refine wpList_append_own _ rfl _ _ 59 rfl w5.heap.size 29 i0 (.agg #[.int .i32 0, .int .i32 0, .int .i32 0, .int .i32 0]) 4 16 Try.underlying59 hi hz0 hz1 hz2 rfl (by decide) _ _ _ rfl ((ownsRow_turn HOWN.out (HX7.out.turn 0)).alloc _) ⟨w7.heap.size, 0, none⟩ 1 1 [.int .i32 v0, .int .i32 v1, .int .i32 v2, .int .i32 v3] rfl rfl (World.news_of_block (heap_alloc_new _ _)) one_vec hm1 hm3 (by have := HXL.out.size; simp; omega) ?_))
        intro v8 w8 hown8 hgrow8 _
        obtain ⟨a8, c8, rfl⟩ := owns_slice hown8
        have HX8 := Lib.hid (((HXL.out.trans HX7.out).alloc _).grown hgrow8 (fun j hj => (HOWN.out.lt j hj).1))
        have HOWN8 := Lib.hid hown8
        clear hown8 hgrow8
        go_wp2_with fail
        go_roundw
        case rel => exact ⟨k + 1, _, _, by omega, by go_num, rfl, HOK'.out, by rw [HSUC.out]; exact HOWN8.out, HX8.out⟩
        case measure => simp [intOf]; omega
    · obtain rfl : k = n := by omega
      clear hlt
      go_wp2_with fail
      go_ret2
      exact ⟨p, c, by rw [hok]; rfl, by rw [hok]; exact own_base HOWN.out (by have := HX5.out.size; omega), HXR.out⟩
set_option maxRecDepth 100000 in
theorem row_bad (v : Value) (a : Arr) (f n : Int) (w : World) (h : rwOk a f n = false) :
    Calls Try.prog 22 #[v, .agg a.C.toArray, .int .i64 f, .int .i64 n] w fun e w' => e = .returned (.tuple #[.slice none 0 0, .int .i64 2]) ∧ Ext w w' := by
  obtain ⟨w0, hw0, ha0, hx0⟩ : ∃ w0, w.alloc (.cells a.C.toArray 24) = w0 ∧ AAt w0 w.heap.size a ∧ Ext w w0 := ⟨_, rfl, heap_alloc_new _ _, (Ext.refl _).alloc _⟩
  have HW0 := Lib.hid hw0
  have HA0 := Lib.hid ha0
  have HX0 := Lib.hid hx0
  have hl0 := ha0.load
  have n0 := heap_lt ha0
  clear hw0 ha0 hx0
  have HCK := Lib.hid (fun w => check_any a w)
  unfold rwOk at h
  cases ho : arrOk a
  · rw [ho] at HCK
    have HCK : Hid (∀ w, Calls Try.prog 24 #[.agg a.C.toArray] w fun e w' => e = .returned (.int .i64 2) ∧ Ext w w') := HCK
    clear h ho
    go_enter Try.func22, Try.ntmps22
    go_upto_region 1 with fail
    rw [HW0.out]
    generalize hb0 : w.heap.size = b0 at *
    have HB0 := Lib.hid hb0
    clear hb0 HW0
    go_wp2_with (first | (go_at_call 24; refine (HCK.out _).mono ?_; rintro _ w5 ⟨rfl, hx5⟩; have HX5 := Lib.hid (HX0.out.trans hx5); have HA5 := Lib.hid (HA0.out.ext hx5); clear hx5) | (go_at_call 26; refine (between_any _ _ _ _).mono ?_; rintro _ _ ⟨rfl, rfl⟩))
    go_ret2
    exact ⟨rfl, HX5.out⟩
  · rw [ho] at HCK h
    have HCK : Hid (∀ w, Calls Try.prog 24 #[.agg a.C.toArray] w fun e w' => e = .returned (.int .i64 0) ∧ Ext w w') := HCK
    cases hq : (decide (0 ≤ f) && decide (f ≤ 65535))
    · have HQ := Lib.hid hq
      clear h ho hq
      go_enter Try.func22, Try.ntmps22
      go_upto_region 1 with fail
      rw [HW0.out]
      generalize hb0 : w.heap.size = b0 at *
      have HB0 := Lib.hid hb0
      clear hb0 HW0
      go_wp2_with (first | (go_at_call 24; refine (HCK.out _).mono ?_; rintro _ w5 ⟨rfl, hx5⟩; have HX5 := Lib.hid (HX0.out.trans hx5); have HA5 := Lib.hid (HA0.out.ext hx5); clear hx5) | (go_at_call 26; refine (between_any _ _ _ _).mono ?_; (first | rw [HQ.out] | skip);rintro _ _ ⟨rfl, rfl⟩))
      go_ret2
      exact ⟨rfl, HX5.out⟩
    · rw [hq] at h
      have HQ := Lib.hid hq
      have HQ2 := Lib.hid (show (decide (0 ≤ n) && decide (n ≤ 65535)) = false by simpa using h)
      clear h ho hq
      go_enter Try.func22, Try.ntmps22
      go_upto_region 1 with fail
      rw [HW0.out]
      generalize hb0 : w.heap.size = b0 at *
      have HB0 := Lib.hid hb0
      clear hb0 HW0
      go_wp2_with (first | (go_at_call 24; refine (HCK.out _).mono ?_; rintro _ w5 ⟨rfl, hx5⟩; have HX5 := Lib.hid (HX0.out.trans hx5); have HA5 := Lib.hid (HA0.out.ext hx5); clear hx5) | (go_at_call 26; refine (between_any _ _ _ _).mono ?_; (first | rw [HQ.out] | rw [HQ2.out]);rintro _ _ ⟨rfl, rfl⟩))
      go_ret2
      exact ⟨rfl, HX5.out⟩
set_option maxRecDepth 100000 in
theorem row_long (v : Value) (a : Arr) (f n : Int) (w : World) (ha : arrOk a = true) (hf1 : 0 ≤ f) (hf2 : f ≤ 65535) (h1 : 256 < n) (h2 : n ≤ 65535) :
    Calls Try.prog 22 #[v, .agg a.C.toArray, .int .i64 f, .int .i64 n] w fun e w' => e = .returned (.tuple #[.slice none 0 0, .int .i64 3]) ∧ Ext w w' := by
  obtain ⟨w0, hw0, ha0, hx0⟩ : ∃ w0, w.alloc (.cells a.C.toArray 24) = w0 ∧ AAt w0 w.heap.size a ∧ Ext w w0 := ⟨_, rfl, heap_alloc_new _ _, (Ext.refl _).alloc _⟩
  have HW0 := Lib.hid hw0
  have HA0 := Lib.hid ha0
  have HX0 := Lib.hid hx0
  have hl0 := ha0.load
  have n0 := heap_lt ha0
  clear hw0 ha0 hx0
  have HCK : Hid (∀ w, Calls Try.prog 24 #[.agg a.C.toArray] w fun e w' => e = .returned (.int .i64 0) ∧ Ext w w') := Lib.hid (fun w => by have := check_any a w; rw [ha] at this; exact this)
  have h0 : 0 ≤ n := by omega
  have HQ := Lib.hid (show (decide (0 ≤ f) && decide (f ≤ 65535)) = true by rw [decide_eq_true hf1, decide_eq_true hf2]; rfl)
  have HQ2 := Lib.hid (show (decide (0 ≤ n) && decide (n ≤ 65535)) = true by rw [decide_eq_true h0, decide_eq_true h2]; rfl)
  go_enter Try.func22, Try.ntmps22
  go_upto_region 1 with fail
  rw [HW0.out]
  generalize hb0 : w.heap.size = b0 at *
  have HB0 := Lib.hid hb0
  clear hb0 HW0
  go_wp2_with (first | (go_at_call 24; refine (HCK.out _).mono ?_; rintro _ w5 ⟨rfl, hx5⟩; have HX5 := Lib.hid (HX0.out.trans hx5); have HA5 := Lib.hid (HA0.out.ext hx5); clear hx5) | (go_at_call 26; refine (between_any _ _ _ _).mono ?_; (first | rw [HQ.out] | rw [HQ2.out]);rintro _ _ ⟨rfl, rfl⟩))
  go_ret2
  exact ⟨rfl, HX5.out⟩
theorem row_any (v : Value) (bs : List Int) (a : Arr) (f n : Int) (w : World) (h : Ints .u8 w v bs) (hb : bs.length ≤ 100000) :
    Calls Try.prog 22 #[v, .agg a.C.toArray, .int .i64 f, .int .i64 n] w fun e w' => ∃ p cap, e = .returned (.tuple #[.slice p (rowN bs a f n) cap, .int .i64 (rowE bs a f n)]) ∧
      w'.ownsRow w.heap.size 29 4 (.slice p (rowN bs a f n) cap) (rowN bs a f n) (rowC bs a f (rowN bs a f n)) ∧ Ext w w' := by
  cases hr : rwOk a f n
  · refine (row_bad v a f n w hr).mono ?_
    rintro e w' ⟨rfl, hx⟩
    refine ⟨none, 0, ?_, ?_, hx⟩
    · unfold rowN rowE; rw [hr]; rfl
    · unfold rowN; rw [hr]; exact World.ownsRow_nil _ _ _ _
  · have hr' := hr
    unfold rwOk at hr'
    simp only [Bool.and_eq_true, decide_eq_true_eq] at hr'
    obtain ⟨⟨h1, h2, h3⟩, h4, h5⟩ := hr'
    by_cases h6 : n ≤ 256
    · obtain ⟨m, rfl⟩ : ∃ m : Nat, n = m := ⟨n.toNat, by omega⟩
      refine (row_good v bs a f m w h hb h1 h2 h3 (by omega)).mono ?_
      rintro e w' ⟨p, cap, rfl, ho, hx⟩
      have e1 : rowN bs a f m = gN (rowOk bs a f m) m := by
        unfold rowN
        rw [hr, decide_eq_true h6, Int.toNat_natCast]
        rfl
      have e2 : rowE bs a f m = gE (rowOk bs a f m) := by
        unfold rowE
        rw [hr, if_pos rfl, if_pos h6, Int.toNat_natCast]
        rfl
      rw [e1, e2]
      exact ⟨p, cap, rfl, ho, hx⟩
    · refine (row_long v a f n w h1 h2 h3 (by omega) h5).mono ?_
      rintro e w' ⟨rfl, hx⟩
      have e1 : rowN bs a f n = 0 := by unfold rowN; rw [decide_eq_false h6]; simp
      have e2 : rowE bs a f n = 3 := by unfold rowE; rw [hr, if_pos rfl, if_neg h6]
      rw [e1, e2]
      exact ⟨none, 0, rfl, World.ownsRow_nil _ _ _ _, hx⟩
end Go.Proofs.Ytgbcngmciabpkaa
