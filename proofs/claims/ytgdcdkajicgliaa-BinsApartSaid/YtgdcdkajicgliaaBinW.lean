/- Contract of Whole. Conditions: each theorem's own premises. -/
import Derived.Test.YtgdcdkajicgliaaBinP
namespace Go.Proofs.Ytgdcdkajicgliaa
open Go.RowKit
set_option linter.unusedVariables false
set_option maxRecDepth 100000
set_option linter.unusedSimpArgs false
attribute [local go_sem ↓] Ld_Sk St_Sk Ld_Fr2 Ld_V4 Ld_St
attribute [local go_sem] Oper.semAt_some

/-- What holds while strokes are painted one by one. -/
structure WInv (s : St) (B : Pb) (w2 wr : World) (P : Pl) (L : List (Sk × Value)) (k : Nat) (a : Pl × Nat) : Prop where
  e : ((L.map (·.1)).take k).foldl (stepK s) (P, 0) = a
  p : PlAt wr B a.1
  c : Chg [B.c, B.d, B.m] w2 wr
  l : a.2 ≤ k
set_option maxHeartbeats 2000000 in
theorem whole_bad (B : Pb) (P : Pl) (s : St) (v : Value) (w : World) (hs : stOk s = false) :
    Calls Try.prog 50 #[.pointer (some ⟨B.p, 0, none⟩), .agg s.C.toArray, v] w fun e w' => e = .returned (.tuple #[.int .i64 0, .int .i64 340]) ∧ Ext w w' := by
  have HCK := Lib.hid (check_any s)
  rw [hs] at HCK
  clear hs
  go_enter Try.func50, Try.ntmps50
  go_upto_region 1 with fail
  obtain ⟨w2, hw2, h2, hx2⟩ : ∃ w2, w.alloc (.cells s.C.toArray 42) = w2 ∧ w2.heap[w.heap.size]? = some (.cells s.C.toArray 42 (0, 0)) ∧ Ext w w2 := ⟨_, rfl, heap_alloc_new _ _, (Ext.refl _).alloc _⟩
  rw [hw2]
  obtain ⟨r, hr⟩ : ∃ r, w.heap.size = r := ⟨_, rfl⟩
  rw [hr] at h2
  rw [hr]
  have HS : StAt w2 r s := h2
  have ls := StAt.load HS
  have ns := heap_lt HS
  clear hw2 h2 hr
  go_wp2_with (go_at_call 58; refine (HCK.out _).mono ?_; rintro _ w5 ⟨rfl, hx5⟩)
  go_ret2
  exact ⟨rfl, hx2.trans hx5⟩
set_option maxHeartbeats 4000000 in
theorem whole_ok (base : Nat) (B : Pb) (P : Pl) (s : St) (v : Value) (L : List (Sk × Value)) (w : World) (hp : PlAt w B P) (h : SksMy base w v L) (hs : stOk s = true) (hl : L.length ≤ 1000) :
    Calls Try.prog 50 #[.pointer (some ⟨B.p, 0, none⟩), .agg s.C.toArray, v] w fun e w' => e = .returned (.tuple #[.int .i64 ((L.map (·.1)).foldl (stepK s) (P, 0)).2, .int .i64 0]) ∧ PlAt w' B ((L.map (·.1)).foldl (stepK s) (P, 0)).1 ∧ Chg [B.c, B.d, B.m] w w' := by
  have HP := Lib.hid hp
  have HL := Lib.hid h
  have HCK := Lib.hid (check_any s)
  rw [hs] at HCK
  have HSO := Lib.hid hs
  obtain ⟨_, av, cap, rfl, hln, hlc, _, _⟩ := (SksMy.at h).1
  have hl1 : (L.length : Int) ≤ 1000 := by omega
  clear hp h hs hln hlc
  go_enter Try.func50, Try.ntmps50
  go_upto_region 1 with fail
  obtain ⟨w2, hw2, h2, hx2⟩ : ∃ w2, w.alloc (.cells s.C.toArray 42) = w2 ∧ w2.heap[w.heap.size]? = some (.cells s.C.toArray 42 (0, 0)) ∧ Ext w w2 := ⟨_, rfl, heap_alloc_new _ _, (Ext.refl _).alloc _⟩
  rw [hw2]
  obtain ⟨r, hr⟩ : ∃ r, w.heap.size = r := ⟨_, rfl⟩
  have HR := Lib.hid hr
  rw [hr] at h2
  rw [hr]
  have HS : StAt w2 r s := h2
  have ls := StAt.load HS
  have ns := heap_lt HS
  have HS2 := Lib.hid HS
  have HX2 := Lib.hid hx2
  clear hw2 h2 hr hx2 HS
  go_upto_region 5 with (go_at_call 58; refine (HCK.out _).mono ?_; rintro _ w5 ⟨rfl, hx5⟩)
  have HX5 := Lib.hid (HX2.out.trans hx5)
  have HS5 := Lib.hid (HS2.out.ext hx5)
  have HP5 := Lib.hid (HP.out.ext HX5.out)
  have HL5 := Lib.hid (sks_ext HL.out HX5.out)
  have HBL : Hid (B.p < r ∧ B.c < r ∧ B.d < r ∧ B.m < r ∧ r < w5.heap.size) := Lib.hid (by have := HR.out; have := heap_lt HP.out.p; have := heap_lt HP.out.c; have := heap_lt HP.out.d; have := heap_lt HP.out.m; have := heap_lt HS5.out; omega)
  have HTY : Hid (∀ m ∈ [B.c, B.d, B.m], ∃ cs e, w5.heap[m]? = some (.cells cs e (0, 0)) ∧ e ≠ 99 ∧ e ≠ 26) := Lib.hid (by
    intro m hm
    simp only [List.mem_cons, List.not_mem_nil, or_false] at hm
    rcases hm with rfl | rfl | rfl
    · exact ⟨_, _, HP5.out.c, by decide, by decide⟩
    · exact ⟨_, _, HP5.out.d, by decide, by decide⟩
    · exact ⟨_, _, HP5.out.m, by decide, by decide⟩)
  clear hx5 ls ns HCK HX2 HS2
  go_wp2_with fail
  go_loopw [8, 22] (fun m i wr => ∃ (k : Nat) (a : Pl × Nat), k ≤ L.length ∧ i = .int .i64 k ∧ m = .int .i64 a.2 ∧ Hid (WInv s B w5 wr P L k a)) (fun _ i _ => L.length - (intOf i).toNat)
  case atStart => exact ⟨0, (P, 0), Nat.zero_le _, rfl, rfl, Lib.hid ⟨rfl, HP5.out, Chg.refl _ _, Nat.le_refl _⟩⟩
  case round =>
    rename World => wr
    obtain ⟨k, ⟨Pk, nk⟩, hk, rfl, rfl, HI⟩ := hrel
    have hnk : nk ≤ k := HI.out.l
    by_cases hlt : k < L.length
    · have hki : (k : Int) < (L.length : Int) := by omega
      obtain ⟨q, hq⟩ : ∃ q, L[k]? = some q := ⟨_, List.getElem?_eq_getElem hlt⟩
      have HLR := Lib.hid (sks_chg HL5.out HI.out.c HTY.out)
      obtain ⟨b, off, rfl, _, _⟩ := (SksMy.at HLR.out).1.pos (by omega)
      have hld := sk_get (SksMy.at HLR.out) hq
      obtain ⟨va, vc, he⟩ := sk_slice ((SksMy.at HLR.out).2 q (List.mem_of_getElem? hq))
      obtain ⟨w6, hst6, h6, hx6⟩ := newStroke wr q (by rw [he]; cases va <;> rfl)
      have hs6 := hx6.heap (HI.out.c.heap HS5.out (by have := HBL.out; simp only [List.mem_cons, List.not_mem_nil, or_false]; omega))
      have ls := StAt.load (show StAt w6 r s from hs6)
      have ns := heap_lt hs6
      have hp6 := HI.out.p.ext hx6
      have lf := skB_frag (q := q.1) (vs := q.2) h6
      have lc := skB_col (q := q.1) (vs := q.2) h6
      have nb := heap_lt h6
      have HX6 := Lib.hid hx6
      have HST : Hid (((L.map (·.1)).take (k + 1)).foldl (stepK s) (P, 0) = stepK s (Pk, nk) q.1) := Lib.hid (by
        rw [List.take_add_one, List.getElem?_map, hq, List.foldl_append, HI.out.e]
        rfl)
      cases hin : inP Pk.W Pk.H q.1.x q.1.y with
      | false =>
        have HPI := Lib.hid (paintp_out B Pk s ⟨q.1.x, q.1.y, q.1.z, q.1.iw, q.1.front, q.1.pt, q.2⟩ q.1.col HSO.out hin w6 hp6)
        have HIN := Lib.hid hin
        have HP6 := Lib.hid hp6
        clear hs6 hp6 h6 hx6 hq he hin
        go_wp2_with (go_at_call 24; refine HPI.out.mono ?_; rintro _ wc ⟨rfl, hxc⟩)
        go_roundw
        case rel =>
          have e : stepK s (Pk, nk) q.1 = (Pk, nk) := by unfold stepK; rw [if_neg]; rw [HIN.out]; decide
          exact ⟨k + 1, (Pk, nk), by omega, by go_num, rfl, Lib.hid ⟨by rw [HST.out, e], HP6.out.ext hxc, HI.out.c.ext2 (HX6.out.trans hxc), by show nk ≤ _; omega⟩⟩
        case measure => simp [intOf]; omega
      | true =>
        have hpi := paintp_in B Pk s ⟨q.1.x, q.1.y, q.1.z, q.1.iw, q.1.front, q.1.pt, q.2⟩ q.1.col HSO.out hin w6 hp6
        obtain ⟨bb, hbb⟩ : ∃ bb, (ptV s ⟨q.1.x, q.1.y, q.1.z, q.1.iw, q.1.front, q.1.pt, q.2⟩ q.1.col Pk).2 = bb := ⟨_, rfl⟩
        rw [hbb] at hpi
        have HE : Hid (stepK s (Pk, nk) q.1 = (ptP s ⟨q.1.x, q.1.y, q.1.z, q.1.iw, q.1.front, q.1.pt, q.2⟩ q.1.col Pk, nk + if bb then 1 else 0)) := Lib.hid (by
          unfold stepK
          rw [if_pos hin, ← hbb]
          rfl)
        obtain ⟨Pn, hPn⟩ : ∃ Pn, ptP s ⟨q.1.x, q.1.y, q.1.z, q.1.iw, q.1.front, q.1.pt, q.2⟩ q.1.col Pk = Pn := ⟨_, rfl⟩
        rw [hPn] at hpi HE
        have HPI := Lib.hid hpi
        clear hs6 hp6 h6 hx6 hq he hin hpi hbb hPn
        cases bb with
        | false =>
          go_wp2_with (go_at_call 24; refine HPI.out.mono ?_; rintro _ wc ⟨rfl, hp2, hc2⟩)
          go_roundw
          case rel => exact ⟨k + 1, (Pn, nk), by omega, by go_num, rfl, Lib.hid ⟨by rw [HST.out, HE.out]; rfl, hp2, (HI.out.c.ext2 HX6.out).trans hc2, by show nk ≤ _; omega⟩⟩
          case measure => simp [intOf]; omega
        | true =>
          go_wp2_with (go_at_call 24; refine HPI.out.mono ?_; rintro _ wc ⟨rfl, hp2, hc2⟩)
          go_roundw
          case rel => exact ⟨k + 1, (Pn, nk + 1), by omega, by go_num, by go_num, Lib.hid ⟨by rw [HST.out, HE.out]; rfl, hp2, (HI.out.c.ext2 HX6.out).trans hc2, by show nk + 1 ≤ _; omega⟩⟩
          case measure => simp [intOf]; omega
    · obtain rfl : k = L.length := by omega
      have he := HI.out.e
      rw [List.take_of_length_le (by rw [List.length_map]; exact Nat.le_refl _)] at he
      have HE := Lib.hid he
      clear he
      go_wp2_with fail
      go_ret2
      exact ⟨by rw [HE.out]; rfl, by rw [HE.out]; exact HI.out.p, (HX5.out.chg _).trans HI.out.c⟩
end Go.Proofs.Ytgdcdkajicgliaa
