/- The document's Read. Conditions: each theorem's own premises. -/
import Derived.Test.YtgdcdkajicgliaaDoc5
import Derived.Test.YtgdcdkajicgliaaFraD
namespace Go.Proofs.Ytgdcdkajicgliaa
open Go.RowKit
set_option linter.unusedVariables false
set_option linter.unusedSimpArgs false
set_option maxRecDepth 100000

theorem grp_four (P : Pl) (x y : Int) (w n : Nat) : ∃ a b c d : Int, grp P x y w n = [a, b, c, d] := by
  unfold grp
  split
  · have h := lowB_length 4 (packX 1 (cellV P ((y + ((n / w : Nat) : Int)).toNat * P.W + (x + ((n % w : Nat) : Int)).toNat)).v.L)
    match lowB (packX 1 (cellV P ((y + ((n / w : Nat) : Int)).toNat * P.W + (x + ((n % w : Nat) : Int)).toNat)).v.L) 4, h with
    | [a, b, c, d], _ => exact ⟨a, b, c, d, rfl⟩
  · exact ⟨0, 0, 0, 0, rfl⟩
theorem grp_wf (P : Pl) (x y : Int) (w n : Nat) : ∀ b ∈ grp P x y w n, (Lit.int .u8 b).wf = true := by
  unfold grp
  split
  · intro b hb
    exact lowB_wf _ _ _ hb
  · intro b hb
    simp at hb
    rw [hb]
    decide
/-- The bytes before a pixel. -/
def grps (P : Pl) (x y : Int) (w n : Nat) : List Int := (List.range n).flatMap (grp P x y w)
theorem grps_succ (P : Pl) (x y : Int) (w n : Nat) : grps P x y w (n + 1) = grps P x y w n ++ grp P x y w n := by
  unfold grps
  rw [List.range_succ, List.flatMap_append, List.flatMap_cons, List.flatMap_nil, List.append_nil]
theorem grps_len (P : Pl) (x y : Int) (w : Nat) : ∀ n, (grps P x y w n).length = n * 4
  | 0 => rfl
  | n + 1 => by
    obtain ⟨a, b, c, d, h⟩ := grp_four P x y w n
    rw [grps_succ, List.length_append, grps_len P x y w n, h, Nat.succ_mul]
    rfl
theorem grps_wf (P : Pl) (x y : Int) (w n : Nat) : ∀ z ∈ grps P x y w n, (Lit.int .u8 z).wf = true := fun z hz => by
  unfold grps at hz
  obtain ⟨k, _, hk⟩ := List.mem_flatMap.1 hz
  exact grp_wf P x y w k z hk
/-- A slice's first four cells. -/
theorem four_at {w : World} {v : Value} {k : IntKind} {a b c d : Int} (h : Ints k w v [a, b, c, d]) : ∃ g off cap, v = .slice (some ⟨g, off, none⟩) 4 cap ∧ w.cell? ⟨g, off, none⟩ = some (.int k a) ∧ w.cell? ⟨g, off + 1, none⟩ = some (.int k b) ∧ w.cell? ⟨g, off + 2, none⟩ = some (.int k c) ∧ w.cell? ⟨g, off + 3, none⟩ = some (.int k d) ∧ g < w.heap.size := by
  obtain ⟨⟨_, ad, cap, rfl, _, _, _, hp⟩, _⟩ := h
  obtain ⟨g, off, rfl, hg, hc⟩ := hp (by simp)
  exact ⟨g, off, cap, rfl, hc 0 _ rfl, hc 1 _ rfl, hc 2 _ rfl, hc 3 _ rfl, hg⟩
theorem four_slc {w : World} {g : Nat} {a b c d : Int} (h : w.heap[g]? = some (.cells #[.int .u8 a, .int .u8 b, .int .u8 c, .int .u8 d] 5 (0, 0))) : SlC w (.slice (some ⟨g, 0, none⟩) 4 4) 1 4 [.int .u8 a, .int .u8 b, .int .u8 c, .int .u8 d] :=
  ⟨rfl, _, _, rfl, Nat.le_refl _, by decide, (by intro h; cases h), fun _ => ⟨g, 0, rfl, heap_lt h, fun j u hu => cell_of_heap h (by rw [Nat.zero_add, List.getElem?_toArray]; exact hu)⟩⟩
theorem cell_same {w w' : World} {q : Addr} (h : w'.heap[q.block]? = w.heap[q.block]?) : w'.cell? q = w.cell? q := by
  unfold World.cell?
  rw [h]
theorem zero4_slc {w : World} {g : Nat} (h : w.heap[g]? = some (.cells #[.int .u8 0, .int .u8 0, .int .u8 0, .int .u8 0] 5 (0, 0))) : SlC w (.slice (some ⟨g, 0, none⟩) 4 4) 1 ([0, 0, 0, 0] : List Int).length (([0, 0, 0, 0] : List Int).map (Value.int .u8)) :=
  ⟨rfl, _, _, rfl, Nat.le_refl _, by decide, (by intro h; cases h), fun _ => ⟨g, 0, rfl, heap_lt h, fun j u hu => cell_of_heap h (by rw [Nat.zero_add, List.getElem?_toArray]; exact hu)⟩⟩
section
attribute [local go_sem ↓] Ld_Dp St_Dp
set_option maxHeartbeats 4000000 in
theorem dread_any (G : Nat → Prop) (P : Pl) (v : Value) (L : List Bt) (x y : Int) (n m : Nat) (hx : -9223372036854775808 ≤ x ∧ x ≤ 9223372036854775807) (hy : -9223372036854775808 ≤ y ∧ y ≤ 9223372036854775807) (hn : n ≤ 64) (hm : m ≤ 64) (w : World) (h : DAt G w v P L) : Calls Try.prog 37 #[.agg (P.D v).toArray, .int .i64 x, .int .i64 y, .int .i64 n, .int .i64 m] w fun e w' => ∃ u, e = .returned u ∧ Ints .u8 w' u (rdV P x y n m) ∧ Ext w w' := by
  obtain ⟨i1, hi1, hy0, hy1, hy2⟩ := info_parts info_u8'
  have HRD := Lib.hid (rdV_eq h.ok hx hy hn hm)
  have HH := Lib.hid h
  have HIN := Lib.hid (fun x y w => din_any P v x y w)
  obtain ⟨w1, hw1, h1, hx1⟩ : ∃ w1, w.alloc (.cells (P.D v).toArray 76) = w1 ∧ DpAt w1 w.heap.size P v ∧ Ext w w1 := ⟨_, rfl, heap_alloc_new _ _, (Ext.refl _).alloc _⟩
  have HP1 := Lib.hid h1
  have HX1 := Lib.hid hx1
  have hW := h.ok.w2
  have hH := h.ok.h2
  clear h h1 hx1
  go_enter Try.func37, Try.ntmps37
  go_upto_region 1 with fail
  try rw [hw1]
  obtain ⟨r, hr⟩ : ∃ r, w.heap.size = r := ⟨_, rfl⟩
  rw [hr] at HP1
  rw [hr]
  have HR := Lib.hid hr
  clear hw1 hr
  obtain ⟨bse, hbse⟩ : ∃ bse, w1.heap.size = bse := ⟨_, rfl⟩
  have HBS : Hid (w1.heap.size = bse ∧ r < bse) := Lib.hid ⟨hbse, by have := heap_lt HP1.out; omega⟩
  clear hbse
  go_wp2_with fail
  go_loopw [12, 11] (fun i u wr => ∃ j : Nat, j ≤ m ∧ i = .int .i64 j ∧ Hid (wr.ownsRow bse 5 1 u (j * n * 4) ((grps P x y n (j * n)).map (Value.int .u8)) ∧ Ext w1 wr)) (fun i _ _ => m - (intOf i).toNat)
  case atStart => exact ⟨0, Nat.zero_le _, rfl, Lib.hid ⟨by rw [Nat.zero_mul, Nat.zero_mul]; exact World.ownsRow_nil _ _ _ _, Ext.refl _⟩⟩
  case round =>
    rename World => wr
    obtain ⟨j, hj, rfl, HJ⟩ := hrel
    by_cases hlt : j < m
    · have hji : (j : Int) < (m : Int) := by omega
      go_wp2_with fail
      go_loopw [13, 11] (fun i u wq => ∃ k : Nat, k ≤ n ∧ i = .int .i64 k ∧ Hid (wq.ownsRow bse 5 1 u ((j * n + k) * 4) ((grps P x y n (j * n + k)).map (Value.int .u8)) ∧ Ext w1 wq)) (fun i _ _ => n - (intOf i).toNat)
      case atStart => exact ⟨0, Nat.zero_le _, rfl, HJ⟩
      case round =>
        rename World => wq
        obtain ⟨k, hk, rfl, HK⟩ := hrel
        by_cases hltk : k < n
        · have hki : (k : Int) < (n : Int) := by omega
          obtain ⟨N, hN⟩ : ∃ N, j * n + k = N := ⟨_, rfl⟩
          rw [hN] at HK
          have HNN : Hid (N % n = k ∧ N / n = j ∧ j * n + (k + 1) = N + 1 ∧ N < 4096) := Lib.hid (by
            have h1 : N % n = k := by rw [← hN, Nat.mul_comm, Nat.mul_add_mod, Nat.mod_eq_of_lt hltk]
            have h2 : N / n = j := by rw [← hN, Nat.mul_comm, Nat.mul_add_div (by omega), Nat.div_eq_of_lt hltk, Nat.add_zero]
            have h3 := Nat.mul_le_mul (show j ≤ 63 by omega) hn
            exact ⟨h1, h2, by omega, by omega⟩)
          clear hN
          obtain ⟨bI, hbI⟩ : ∃ bI, inP P.W P.H (x + (k : Int)) (y + (j : Int)) = bI := ⟨_, rfl⟩
          have HGR : Hid (grp P x y n N = if bI = true then lowB (packX 1 (cellV P ((y + (j : Int)).toNat * P.W + (x + (k : Int)).toNat)).v.L) 4 else [0, 0, 0, 0]) := Lib.hid (by
            unfold grp
            rw [HNN.out.1, HNN.out.2.1, hbI])
          have HBI := Lib.hid hbI
          have HI1 := Lib.hid (fun w => HIN.out (x + (k : Int)) (y + (j : Int)) w)
          rw [hbI] at HI1
          clear hbI
          obtain ⟨w2, hw2, h2, hx2⟩ : ∃ w2, wq.alloc (.cells #[.int .u8 0, .int .u8 0, .int .u8 0, .int .u8 0] 5) = w2 ∧ w2.heap[wq.heap.size]? = some (.cells #[.int .u8 0, .int .u8 0, .int .u8 0, .int .u8 0] 5 (0, 0)) ∧ Ext wq w2 := ⟨_, rfl, heap_alloc_new _ _, (Ext.refl _).alloc _⟩
          have H2 := Lib.hid h2
          have HX2 := Lib.hid hx2
          clear h2 hx2
          go_upto_region 9 with fail
          try rw [hw2]
          clear hw2
          obtain ⟨zb, hzb⟩ : ∃ zb, wq.heap.size = zb := ⟨_, rfl⟩
          rw [hzb] at H2
          rw [hzb]
          have HZB := Lib.hid hzb
          clear hzb
          have lp : (@Classical.epsilon _ neF (LdF 76 (.pointer (some ⟨r, 0, none⟩)))).run Try.prog w2 = .ok (.agg (P.D v).toArray) w2 := DpAt.load (HX2.out.heap (HK.out.2.heap HP1.out))
          have nr := heap_lt (HX2.out.heap (HK.out.2.heap HP1.out))
          go_cut [49] from 26 to 49 (fun t wc => t = .bool bI ∧ Hid (Ext w2 wc))
          case first =>
            by_cases x1 : -1000 < x
            · by_cases x2 : x < 1000
              · by_cases y1 : -1000 < y
                · by_cases y2 : y < 1000
                  · have e1 : IntKind.i64.wrap (x + (k : Int)) = x + (k : Int) := IntWalk.i64_in _ (by omega)
                    have e2 : IntKind.i64.wrap (y + (j : Int)) = y + (j : Int) := IntWalk.i64_in _ (by omega)
                    go_wp2_with (go_at_call 31; refine (HI1.out _).mono ?_; rintro _ w3 ⟨rfl, hx3⟩)
                    go_meet
                    exact ⟨by simp [x1, x2, y1, y2], Lib.hid hx3⟩
                  · have hf : bI = false := by rw [← HBI.out]; unfold inP; simp; omega
                    go_wp2_with fail
                    go_meet
                    exact ⟨by rw [hf], Lib.hid (Ext.refl _)⟩
                · have hf : bI = false := by rw [← HBI.out]; unfold inP; simp; omega
                  go_wp2_with fail
                  go_meet
                  exact ⟨by rw [hf], Lib.hid (Ext.refl _)⟩
              · have hf : bI = false := by rw [← HBI.out]; unfold inP; simp; omega
                go_wp2_with fail
                go_meet
                exact ⟨by rw [hf], Lib.hid (Ext.refl _)⟩
            · have hf : bI = false := by rw [← HBI.out]; unfold inP; simp; omega
              go_wp2_with fail
              go_meet
              exact ⟨by rw [hf], Lib.hid (Ext.refl _)⟩
          case rest =>
            rename World => w3
            obtain ⟨rfl, HX3⟩ := hcut
            clear lp nr
            have HP3 := Lib.hid (HX3.out.heap (HX2.out.heap (HK.out.2.heap HP1.out)))
            have lp := DpAt.load (show DpAt w3 r P v from HP3.out)
            have nr := heap_lt HP3.out
            go_upto_if 49 with fail
            go_cut [14] from 50 to 59 (fun t wc => Hid (Ints .u8 wc t (grp P x y n N) ∧ Ext wq wc ∧ ∀ b, t.ownBlock = some b → wq.heap.size ≤ b))
            case first =>
              cases bI
              · go_wp2_with fail
                go_meet
                exact Lib.hid ⟨by rw [HGR.out, if_neg (by decide)]; exact ⟨zero4_slc (HX3.out.heap H2.out), by decide⟩, HX2.out.trans HX3.out, fun b hb => by simp [Value.ownBlock] at hb; have := HZB.out; omega⟩
              · obtain ⟨i1, i2, i3, i4⟩ := inP_true HBI.out
                obtain ⟨X, hX⟩ : ∃ X : Nat, x + (k : Int) = X := ⟨(x + (k : Int)).toNat, by omega⟩
                obtain ⟨Y, hY⟩ : ∃ Y : Nat, y + (j : Int) = Y := ⟨(y + (j : Int)).toNat, by omega⟩
                have e1 : IntKind.i64.wrap (x + (k : Int)) = (X : Int) := by rw [hX]; exact IntWalk.i64_in _ (by omega)
                have e2 : IntKind.i64.wrap (y + (j : Int)) = (Y : Int) := by rw [hY]; exact IntWalk.i64_in _ (by omega)
                have HXY := Lib.hid (And.intro hX hY)
                have HCE := Lib.hid (dcell_any G P v L X Y (by omega) (by omega) w3 (HH.out.ext (((HX1.out.trans HK.out.2).trans HX2.out).trans HX3.out)))
                have hin := place_lt (show X < P.W by omega) (show Y < P.H by omega)
                have hci := (cellV_in HH.out.ok hin).1
                have HGR2 : Hid (grp P x y n N = lowB (packX 1 (cellV P (Y * P.W + X)).v.L) 4) := Lib.hid (by
                  rw [HGR.out, if_pos rfl, show (y + (j : Int)).toNat = Y by omega, show (x + (k : Int)).toNat = X by omega])
                obtain ⟨ce, hce⟩ : ∃ ce, cellV P (Y * P.W + X) = ce := ⟨_, rfl⟩
                rw [hce] at HCE HGR2 hci
                have HPK := Lib.hid (fun w => refpk_any 1 ce.v w (by omega) (by omega) hci.1)
                have hfl : ∀ w, (Instr.field 45 (.agg ce.C.toArray) 0).run Try.prog w = .ok (.agg ce.v.C.toArray) w := fun w => by kernel_rfl
                clear hX hY i1 i2 i3 i4 hin hce hci
                go_wp2_with (first | (go_at_call 74; refine HCE.out.mono ?_; rintro _ w4 ⟨rfl, hx4⟩) | (go_at_call 71; refine (HPK.out _).mono ?_; rintro _ w5 ⟨pa, pc, rfl, hpi, hpb, hx5⟩))
                go_meet
                exact Lib.hid ⟨by rw [HGR2.out]; exact hpi, ((HX2.out.trans HX3.out).trans hx4).trans hx5, fun b hb => by have h1 := hpb b hb; have h2 := (((HX2.out.trans HX3.out).trans hx4)).size; omega⟩
            case rest =>
              rename World => w6
              have HG6 := Lib.hid hcut.out.1
              have HX6 := Lib.hid hcut.out.2.1
              have HB6 := Lib.hid hcut.out.2.2
              clear hcut lp nr HP3
              obtain ⟨z0, z1, z2, z3, hzz⟩ := grp_four P x y n N
              have HZZ := Lib.hid hzz
              rw [hzz] at HG6
              have HWF := Lib.hid (grp_wf P x y n N)
              clear hzz
              obtain ⟨g, off, cap, rfl, hq0, hq1, hq2, hq3, hg⟩ := four_at HG6.out
              have HOU : Hid (w6.ownsRow bse 5 1 u11 (N * 4) ((grps P x y n N).map (Value.int .u8))) := Lib.hid (owns_ext HK.out.1 HX6.out)
              have HNE : Hid (u11.ownBlock ≠ some g) := Lib.hid (fun e => by
                have h1 := (SlC.owned HK.out.1).lt e
                have h2 := HB6.out g rfl
                rcases Nat.eq_zero_or_pos N with h0 | h0
                · subst h0
                  rcases HK.out.1.2 with ⟨h3, _⟩ | ⟨g', c', cur, h3, hb3, hh3, _⟩
                  · rw [h3] at e; cases e
                  · rw [h3] at e; have e2 : g' = g := by simpa [Value.ownBlock] using e
                    have h4 := heap_lt hh3
                    exact absurd h2 (Nat.not_le.2 (e2 ▸ h4))
                · have h4 := h1 (show 0 < N * 4 by omega)
                  exact absurd h2 (Nat.not_le.2 h4))
              go_upto_region 11 with fail
              have X0 := Lib.hid (show Ext w6 w6.drew from (Ext.refl _).drew)
              obtain ⟨w7, hw7, h7, hx7⟩ : ∃ w7, (w6.alloc (.cells #[.int .u8 z0, .int .u8 z1, .int .u8 z2, .int .u8 z3] 5)).drew = w7 ∧ w7.heap[w6.heap.size]? = some (.cells #[.int .u8 z0, .int .u8 z1, .int .u8 z2, .int .u8 z3] 5 (0, 0)) ∧ Ext w6 w7 := ⟨_, rfl, heap_alloc_new _ _, ((Ext.refl _).alloc _).drew⟩
              have HW7 := Lib.hid hw7
              have HX7 := Lib.hid hx7
              have HOU7 := Lib.hid (owns_ext HOU.out hx7)
              have HU7 := Lib.hid (four_slc h7)
              have HQ : Hid (∀ w' : World, (∀ q : Addr, q.block = g → w'.cell? q = w6.cell? q) → w'.cell? ⟨g, off, none⟩ = some (.int .u8 z0) ∧ w'.cell? ⟨g, off + 1, none⟩ = some (.int .u8 z1) ∧ w'.cell? ⟨g, off + 2, none⟩ = some (.int .u8 z2) ∧ w'.cell? ⟨g, off + 3, none⟩ = some (.int .u8 z3)) := Lib.hid (fun w' hh => ⟨(hh _ rfl).trans hq0, (hh _ rfl).trans hq1, (hh _ rfl).trans hq2, (hh _ rfl).trans hq3⟩)
              have HE7 : Hid (∀ q : Addr, q.block = g → w7.cell? q = w6.cell? q) := Lib.hid (fun q hq => by
                obtain ⟨o, ho⟩ : ∃ o, w6.heap[g]? = some o := ⟨_, Array.getElem?_eq_getElem hg⟩
                exact cell_same (by rw [hq, hx7.heap ho, ho]))
              have K0 := HQ.out w6.drew (fun q _ => rfl)
              have K1 := Lib.hid (HQ.out w7 HE7.out)
              have KW := HQ.out w6 (fun q _ => rfl)
              have k1 := HQ.out (w6.alloc (.cells #[.int .u8 z0, .int .u8 z1, .int .u8 z2, .int .u8 z3] 5)) (fun q hq => by have h := HE7.out q hq; rw [← hw7] at h; exact h)
              have HNL := Lib.hid HNN.out.2.2.2
              clear hw7 h7 hx7
              go_region_held3 (fun w' => w'.cell? ⟨g, off, none⟩ = some (.int .u8 z0) ∧ w'.cell? ⟨g, off + 1, none⟩ = some (.int .u8 z1) ∧ w'.cell? ⟨g, off + 2, none⟩ = some (.int .u8 z2) ∧ w'.cell? ⟨g, off + 3, none⟩ = some (.int .u8 z3)) (first | exact K0 | exact KW | exact k1 | exact K1.out | exact K8.out) (first
                | (rw [HW7.out]; refine step_append_all (by rfl) _ _ 48 (by rfl) bse 5 i1 (.int .u8 0) 1 1 Try.underlying48 hi1 hy0 hy1 hy2 (by rfl) (by decide) u11 (N * 4) ((grps P x y n N).map (Value.int .u8)) (by rfl) HOU7.out 4 _ _ (by rfl) HU7.out (by simp [Value.oneCell']) (by have := HNL.out; unfold maxLen; omega) (by have := HNL.out; omega) (by have h1 := HBS.out; have h2 := HX7.out.size; have h3 := HX6.out.size; have h4 := HK.out.2.size; omega) ?_; intro v8 w8 hown8 hgrow8; have HO8 := Lib.hid hown8; have HX8 := Lib.hid (((HK.out.2.trans HX6.out).trans HX7.out).grown hgrow8 (fun b hb => by have h1 := owns_base HOU7.out b hb; have h2 := HBS.out; omega)); have K8 : Hid (w8.cell? ⟨g, off, none⟩ = some (.int .u8 z0) ∧ w8.cell? ⟨g, off + 1, none⟩ = some (.int .u8 z1) ∧ w8.cell? ⟨g, off + 2, none⟩ = some (.int .u8 z2) ∧ w8.cell? ⟨g, off + 3, none⟩ = some (.int .u8 z3)) := Lib.hid (HQ.out w8 (fun q hq => by
                    refine Eq.trans ?_ (HE7.out q hq)
                    obtain ⟨o, ho⟩ : ∃ o, w7.heap[g]? = some o := ⟨_, Array.getElem?_eq_getElem (Nat.lt_of_lt_of_le hg HX7.out.size)⟩
                    exact cell_same (by rw [hq, grown_heap hgrow8 ho (fun j hj e => HNE.out (e ▸ hj)), ho]))); clear hown8 hgrow8))
              have HFIN : Hid (w8.ownsRow bse 5 1 v8 ((N + 1) * 4) ((grps P x y n (N + 1)).map (Value.int .u8)) ∧ Ext w1 w8) := Lib.hid ⟨by
                have h := HO8.out
                rw [grps_succ, HZZ.out, List.map_append, Nat.succ_mul]
                exact h, HX8.out⟩
              clear K0 k1 K1 KW K8 HQ HE7 HO8 HX8 HOU7 HU7 HW7 HX7 X0
              go_wp2_with fail
              go_roundw
              case rel => exact ⟨k + 1, by omega, by go_num, by rw [HNN.out.2.2.1]; exact HFIN⟩
              case measure => simp [intOf]; omega
        · obtain rfl : k = n := by omega
          go_wp2_with fail
          go_roundw
          case rel => exact ⟨j + 1, by omega, by go_num, by rw [Nat.succ_mul]; exact HK⟩
          case measure => simp [intOf]; omega
    · obtain rfl : j = m := by omega
      go_wp2_with fail
      go_ret
      refine ⟨u11, rfl, ?_, HX1.out.trans HJ.out.2⟩
      rw [HRD.out.1]
      have h1 := Ints.owned HJ.out.1 (grps_wf P x y n _)
      rw [Nat.mul_comm] at h1
      exact h1
end
end Go.Proofs.Ytgdcdkajicgliaa
