/- The walk of FetchOne. Conditions: each theorem's own premises. -/
import Derived.Test.YtgbcngmciabpkaaFet22
namespace Go.Proofs.Ytgbcngmciabpkaa
open Go.RowKit Go.ChangeShapes
set_option linter.unusedVariables false

def FC (a : Arr) (f n : Int) : List Value := a.C ++ [Value.int .i64 f, Value.int .i64 n]
/-- An argument of the kind From, in its block. -/
def FrAt (w : World) (b : Nat) (a : Arr) (f n : Int) : Prop := w.heap[b]? = some (.cells (FC a f n).toArray 58 (0, 0))
theorem FrAt.ext {w w' : World} {b : Nat} {a : Arr} {f n : Int} (h : FrAt w b a f n) (x : Ext w w') : FrAt w' b a f n := x.heap h
theorem FrAt.load {w : World} {b : Nat} {a : Arr} {f n : Int} (h : FrAt w b a f n) : (@Classical.epsilon _ neF (LdF 24 (.pointer (some ⟨b, 0, none⟩)))).run Try.prog w = .ok (.agg a.C.toArray) w :=
  ldF_ok _ (rangeF (L := FC a f n) h fun j v hv => by
    unfold FC
    rw [Nat.zero_add, List.getElem?_append_left (List.getElem?_eq_some_iff.1 hv).1]
    exact hv) Try.underlying24 rfl (by kernel_rfl)
theorem FrAt.first {w : World} {b : Nat} {a : Arr} {f n : Int} (h : FrAt w b a f n) : w.cell? ⟨b, 5, none⟩ = some (.int .i64 f) := cell_of_heap h rfl
theorem FrAt.count {w : World} {b : Nat} {a : Arr} {f n : Int} (h : FrAt w b a f n) : w.cell? ⟨b, 6, none⟩ = some (.int .i64 n) := cell_of_heap h rfl
theorem rowC_len (bs : List Int) (a : Arr) (f : Int) (k : Nat) : (rowC bs a f k).length = k * 4 := by
  induction k with
  | zero => rfl
  | succ k ih => rw [rowC_succ, List.length_append, ih, vC_len, vxV_len]; omega
theorem rowC_at (bs : List Int) (a : Arr) (f : Int) (n j i : Nat) (hj : j < n) (hi : i < 4) : (rowC bs a f n)[j * 4 + i]? = (vC (vxV bs a (f + j)))[i]? := by
  induction n with
  | zero => omega
  | succ n ih =>
    have hl := rowC_len bs a f n
    rw [rowC_succ]
    rcases Nat.lt_or_ge j n with h | h
    · rw [List.getElem?_append_left (by omega)]
      exact ih h
    · obtain rfl : j = n := by omega
      rw [List.getElem?_append_right (by omega), hl]
      congr 1
      omega
theorem rowOk_at {bs : List Int} {a : Arr} {f : Int} {n : Nat} (h : rowOk bs a f n = true) (k : Nat) (hk : k < n) : vxOk bs a (f + k) = true := by
  unfold rowOk at h
  exact List.all_eq_true.1 h k (List.mem_range.2 hk)
theorem rowE_ok {bs : List Int} {a : Arr} {f n : Int} (h : rowE bs a f n = 0) : arrOk a = true ∧ 0 ≤ f ∧ f ≤ 65535 ∧ 0 ≤ n ∧ n ≤ 256 ∧ rowOk bs a f n.toNat = true ∧ rowN bs a f n = n.toNat := by
  unfold rowE at h
  split at h
  · rename_i hr
    split at h
    · rename_i hn
      split at h
      · rename_i ho
        have hr' := hr
        unfold rwOk at hr'
        simp only [Bool.and_eq_true, decide_eq_true_eq] at hr'
        refine ⟨hr'.1.1, hr'.1.2.1, hr'.1.2.2, hr'.2.1, hn, ho, ?_⟩
        unfold rowN
        rw [hr, ho, decide_eq_true hn]
        rfl
      · cases h
    · cases h
  · cases h
theorem rowE_no {bs : List Int} {a : Arr} {f n : Int} (h : rowE bs a f n ≠ 0) : rowN bs a f n = 0 := by
  unfold rowE at h
  unfold rowN
  split at h
  · rename_i hr
    split at h
    · rename_i hn
      split at h
      · exact absurd rfl h
      · rename_i ho
        have ho' : rowOk bs a f n.toNat = false := by simpa using ho
        rw [ho']
        simp
    · rename_i hn
      rw [decide_eq_false hn]
      simp
  · rename_i hr
    have hr' : rwOk a f n = false := by simpa using hr
    rw [hr']
    rfl
/-- A vertex out of a row. -/
theorem vec_load {w : World} {b off n cap : Nat} {bs : List Int} {a : Arr} {f : Int} (h : SlC w (.slice (some ⟨b, off, none⟩) n cap) 4 n (rowC bs a f n)) (k : Nat) (hk : k < n) {p0 p1 p2 p3 : Int} (hp : vxV bs a (f + k) = [p0, p1, p2, p3]) :
    (@Classical.epsilon _ neF (LdF 29 (.pointer (some ⟨b, off + k * 4, none⟩)))).run Try.prog w = .ok (.agg #[.int .i32 p0, .int .i32 p1, .int .i32 p2, .int .i32 p3]) w := by
  obtain ⟨b', off', he, hb, hc⟩ := h.pos (by omega)
  cases he
  refine ldF_ok (cs := [.int .i32 p0, .int .i32 p1, .int .i32 p2, .int .i32 p3]) _ (fun j v hv => ?_) Try.underlying29 rfl info_vec
  have hj : j < 4 := (List.getElem?_eq_some_iff.1 hv).1
  have := hc (k * 4 + j) v (by rw [rowC_at bs a f n k j hk hj, hp]; exact hv)
  rw [← Nat.add_assoc] at this
  exact this
theorem from_arg {W : World} {v : Value} (h : ArgIs Try.prog W 58 v) : ∃ (a : Arr) (f n : Int), v = .agg (FC a f n).toArray ∧ (-9223372036854775808 ≤ f ∧ f ≤ 9223372036854775807) := by
  obtain ⟨cs, rfl, g0⟩ := h.agg 3 (ls := [.int .i64, .int .i64, .bool, .int .i64, .int .i64, .int .i64, .int .i64]) rfl rfl rfl
  obtain ⟨u0, us, rfl, ⟨k0, rfl, _⟩, g1⟩ := g0.cons_inv
  obtain ⟨u1, us, rfl, ⟨k1, rfl, _⟩, g2⟩ := g1.cons_inv
  obtain ⟨u2, us, rfl, ⟨k2, rfl⟩, g3⟩ := g2.cons_inv
  obtain ⟨u3, us, rfl, ⟨k3, rfl, _⟩, g4⟩ := g3.cons_inv
  obtain ⟨u4, us, rfl, ⟨k4, rfl, _⟩, g5⟩ := g4.cons_inv
  obtain ⟨u5, us, rfl, ⟨k5, rfl, h5⟩, g6⟩ := g5.cons_inv
  obtain ⟨u6, us, rfl, ⟨k6, rfl, _⟩, g7⟩ := g6.cons_inv
  obtain rfl := g7.nil_inv
  exact ⟨⟨k0, k1, k2, k3, k4⟩, k5, k6, rfl, bounds_i64 h5⟩
attribute [local go_sem] eq_vec
attribute [local go_sem ↓] Ld_Vc St_Vc Ld_Ar
set_option maxRecDepth 100000 in
set_option maxHeartbeats 4000000 in
theorem one_walk (v : Value) (zs : List Int) (a : Arr) (f n : Int) (w : World) (h : Ints .u8 w v zs) : Calls Try.prog 8 #[v, .agg (FC a f n).toArray] w fun e w' => e = .returned (.bool true) ∧ Ext w w' := by
  obtain ⟨w0, hw0, ha, hx0⟩ : ∃ w0, w.alloc (.cells (FC a f n).toArray 58) = w0 ∧ FrAt w0 w.heap.size a f n ∧ Ext w w0 := ⟨_, rfl, heap_alloc_new _ _, (Ext.refl _).alloc _⟩
  have HW0 := Lib.hid hw0
  have HA := Lib.hid ha
  have HX0 := Lib.hid hx0
  have HIN := Lib.hid h
  clear hw0 ha hx0 h
  have hb : (zs.take 3000).length ≤ 100000 := by rw [List.length_take]; omega
  have HSH : Hid (∀ (w : World), Ints .u8 w v zs → Calls Try.prog 11 #[v] w fun e w' => ∃ b c, e = .returned (.slice (some ⟨b, 0, none⟩) (zs.take 3000).length c) ∧ Ints .u8 w' (.slice (some ⟨b, 0, none⟩) (zs.take 3000).length c) (zs.take 3000) ∧ Ext w w') := Lib.hid (fun w h => (short_any v zs w h).mono fun e w' hh => by
    obtain ⟨b, c, h1, h2, h3, h4, h5, h6⟩ := hh
    exact ⟨b, c, h1, h2, h6⟩)
  generalize zs.take 3000 = ys at *
  have HRW := Lib.hid (fun v w (h : Ints .u8 w v ys) => row_any v ys a f n w h hb)
  obtain ⟨E, hE⟩ : ∃ E, rowE ys a f n = E := ⟨_, rfl⟩
  obtain ⟨N, hN⟩ : ∃ N, rowN ys a f n = N := ⟨_, rfl⟩
  rw [hE, hN] at HRW
  have HHE := Lib.hid hE
  have HHN := Lib.hid hN
  by_cases he : E = 0
  · subst he
    obtain ⟨hao, hf1, hf2, hn1, hn2, hro, hrn⟩ := rowE_ok hE
    have hNn : (N : Int) = n := by rw [← hN, hrn]; omega
    rw [← hrn, hN] at hro
    have HRO := Lib.hid hro
    have HAO := Lib.hid hao
    clear hE hN hro hrn hao
    have hN256 : N ≤ 256 := by omega
    go_enter Try.func8, Try.ntmps8
    go_upto_region 1 with fail
    rw [HW0.out]
    generalize hb0 : w.heap.size = b0 at *
    have HB0 := Lib.hid hb0
    clear hb0 HW0
    go_upto_region 5 with (first | (go_at_call 10; refine (wakes_any _).mono ?_; rintro _ w1 ⟨rfl, hx1⟩; have HX1 := Lib.hid (HX0.out.trans hx1); have HA1 := Lib.hid (HA.out.ext hx1); have HIN1 := Lib.hid (HIN.out.ext HX1.out); clear hx1) | (go_at_call 11; refine (HSH.out _ HIN1.out).mono ?_; rintro _ w2 ⟨b, c, rfl, hin2, hx2⟩; have HX2 := Lib.hid (HX1.out.trans hx2); have HA2 := Lib.hid (HA1.out.ext hx2); have HIN2 := Lib.hid hin2; have hl2 := HA2.out.load; have hf2' := HA2.out.first; have hc2' := HA2.out.count; have n2 := heap_lt HA2.out; clear hx2 hin2) | (go_at_call 22; refine (HRW.out _ _ HIN2.out).mono ?_; rintro _ w3 ⟨p, cap, rfl, ho3, hx3⟩))
    have HA5 := Lib.hid (HA2.out.ext hx3)
    have HIN5 := Lib.hid (HIN2.out.ext hx3)
    have HX5 := Lib.hid (HX2.out.trans hx3)
    have HS5 := Lib.hid (SlC.owned ho3)
    clear ho3 hx3
    go_wp2_with fail
    go_loopw [33] (fun i wr => ∃ k : Nat, k ≤ N ∧ i = .int .i64 k ∧ Ext w3 wr) (fun i _ => N - (intOf i).toNat)
    case atStart => exact ⟨0, Nat.zero_le _, rfl, Ext.refl _⟩
    case round =>
      rename World => wr
      obtain ⟨k, hk, rfl, hx⟩ := hrel
      have hf5 := (HA5.out.ext hx).first
      have hc5 := (HA5.out.ext hx).count
      have n5 := heap_lt (HA5.out.ext hx)
      by_cases hlt : k < N
      · obtain ⟨v0, v1, v2, v3, hv⟩ := four (vxV_len ys a (f + k))
        have hvl := HS5.out.ext hx
        obtain ⟨b4, off4, rfl, _, _⟩ := hvl.pos (by omega)
        have q0 := vec_load hvl k hlt hv
        have hki : (k : Int) < (N : Int) := by omega
        obtain ⟨w6, hst6, h6, hx6⟩ := newV4 wr v0 v1 v2 v3
        have HXR := Lib.hid (hx.trans hx6)
        have hl6 := h6.load4
        have H6 := Lib.hid h6
        have hf6 := (HA5.out.ext (hx.trans hx6)).first
        have hl7 := (HA5.out.ext (hx.trans hx6)).load
        have HA6 := Lib.hid (HA5.out.ext (hx.trans hx6))
        have HIN6 := Lib.hid (HIN5.out.ext (hx.trans hx6))
        have n6 := heap_lt HA6.out
        obtain ⟨g, hg⟩ : ∃ g, f + (k : Int) = g := ⟨_, rfl⟩
        have s1 : IntKind.i64.wrap (f + (k : Int)) = g := by rw [IntWalk.i64_in _ (by omega)]; exact hg
        clear hvl hx h6 hx6
        by_cases hg2 : 65535 < g
        · have hc6 := HA6.out.count
          clear hv hlt
          go_wp2_with fail
          go_ret
          exact ⟨by simp, (HX5.out.trans HXR.out)⟩
        · have HVX : Hid (∀ (v : Value) (w : World), Ints .u8 w v ys → Calls Try.prog 12 #[v, .agg a.C.toArray, .int .i64 g] w fun e w' => e = .returned (.tuple #[.agg #[.int .i32 v0, .int .i32 v1, .int .i32 v2, .int .i32 v3], .int .i64 0]) ∧ Ext w w') := Lib.hid (fun v w h => by
            have := fvertex_any v ys a g w h hb
            obtain ⟨e1, e2⟩ := fv_good ys (a := a) (i := g) (by unfold fvOk; rw [HAO.out, decide_eq_true (show 0 ≤ g by omega), decide_eq_true (show g ≤ 65535 by omega)]; rfl)
            have e3 := rowOk_at HRO.out k hlt
            rw [hg] at e3 hv
            unfold vxE at e2
            rw [e3] at e2
            rw [e1, e2, hv] at this
            exact this)
          clear hv
          go_wp2_with (go_at_call 12; refine (HVX.out _ _ HIN6.out).mono ?_; rintro _ w7 ⟨rfl, hx7⟩; obtain ⟨w8, hst8, h8, hx8⟩ := newV4 w7 v0 v1 v2 v3; have hl8 := h8.load4; have hl8' := ((H6.out.ext hx7).ext hx8).load4; have HX8 := Lib.hid ((HXR.out.trans hx7).trans hx8); have n8 := heap_lt h8; have n8' := heap_lt ((H6.out.ext hx7).ext hx8); clear h8 hx7 hx8)
          go_roundw
          case rel => exact ⟨k + 1, by omega, by go_num, HX8.out⟩
          case measure => simp [intOf]; omega
      · obtain rfl : k = N := by omega
        clear hlt
        have HXR := Lib.hid hx
        clear hx
        go_wp2_with fail
        go_ret
        exact ⟨by simp [hNn], HX5.out.trans HXR.out⟩
  · have hN0 := rowE_no (by rw [hE]; exact he)
    rw [hN] at hN0
    subst hN0
    have he' : (E == 0) = false := by simpa using he
    clear hE hN he
    go_enter Try.func8, Try.ntmps8
    go_upto_region 1 with fail
    rw [HW0.out]
    generalize hb0 : w.heap.size = b0 at *
    have HB0 := Lib.hid hb0
    clear hb0 HW0
    go_upto_region 5 with (first | (go_at_call 10; refine (wakes_any _).mono ?_; rintro _ w1 ⟨rfl, hx1⟩; have HX1 := Lib.hid (HX0.out.trans hx1); have HA1 := Lib.hid (HA.out.ext hx1); have HIN1 := Lib.hid (HIN.out.ext HX1.out); clear hx1) | (go_at_call 11; refine (HSH.out _ HIN1.out).mono ?_; rintro _ w2 ⟨b, c, rfl, hin2, hx2⟩; have HX2 := Lib.hid (HX1.out.trans hx2); have HA2 := Lib.hid (HA1.out.ext hx2); have HIN2 := Lib.hid hin2; have hl2 := HA2.out.load; have hf2' := HA2.out.first; have hc2' := HA2.out.count; have n2 := heap_lt HA2.out; clear hx2 hin2) | (go_at_call 22; refine (HRW.out _ _ HIN2.out).mono ?_; rintro _ w3 ⟨p, cap, rfl, ho3, hx3⟩))
    have HX5 := Lib.hid (HX2.out.trans hx3)
    clear ho3 hx3
    go_wp2_with fail
    go_ret
    exact ⟨rfl, HX5.out⟩
theorem one_arg (W : World) (v0 v1 : Value) (h0 : ArgIs Try.prog W 22 v0) (h1 : ArgIs Try.prog W 58 v1) : Calls Try.prog 8 #[v0, v1] W fun e w' => e = .returned (.bool true) ∧ Ext W w' := by
  obtain ⟨zs, hz⟩ := h0.ints Try.underlying22 Try.underlying5 rfl rfl
  obtain ⟨a, f, n, rfl, _⟩ := from_arg h1
  exact one_walk v0 zs a f n W hz.1
end Go.Proofs.Ytgbcngmciabpkaa
