/- The walk of FrameDoes. Conditions: each theorem's own premises. -/
import Derived.Test.YtgdcdkajicgliaaDocA
import Derived.Deep.DeepCutAuto
import Derived.Deep.CutBlock
namespace Go.Proofs.Ytgdcdkajicgliaa
open Go.RowKit
set_option linter.unusedVariables false
set_option linter.unusedSimpArgs false
set_option maxRecDepth 100000

theorem sides_any (B : Pb) (P : Pl) (w : World) (h : PlAt w B P) : Calls Try.prog 22 #[.pointer (some ⟨B.p, 0, none⟩)] w fun e w' => e = .returned (.tuple #[.int .i64 P.W, .int .i64 P.H]) ∧ Ext w w' := by
  have c0 : w.cell? ⟨B.p, 0, none⟩ = some (.int .i64 P.W) := cell_of_heap h.p rfl
  have c1 : w.cell? ⟨B.p, 1, none⟩ = some (.int .i64 P.H) := cell_of_heap h.p rfl
  have n0 := heap_lt h.p
  clear h
  go_enter Try.func22, Try.ntmps22
  go_wp2
  all_goals go_region_with fail
  all_goals go_wp2_with fail
  all_goals go_ret2
  all_goals exact ⟨rfl, (Ext.refl _).drew⟩
section
attribute [local go_sem ↓] Ld_V4 St_V4 Ld_Ce St_Ce Ld_St Ld_Md St_Md Ld_Op St_Op Ld_Dp St_Dp Ld_Fr2
set_option maxHeartbeats 8000000 in
theorem does_walk (m : Md) (hw : R64 m.w) (hh : R64 m.h) (hf : R64 m.f) (v : Value) (L : List Opn) (hwf : ∀ o ∈ L, o.Wf) (w : World) (hL : OpsAt w v L) : Calls Try.prog 6 #[.agg m.C.toArray, v] w fun e w' => e = .returned (.bool true) ∧ Ext w w' := by
  have HSM := Lib.hid (fun w => small_any m hw hh hf w)
  obtain ⟨mm, hmm⟩ : ∃ mm, smM m = mm := ⟨_, rfl⟩
  rw [hmm] at HSM
  have HL := Lib.hid hL
  have HWF := Lib.hid hwf
  obtain ⟨av, cap, rfl, hcm⟩ : ∃ av cap, v = .slice av L.length cap ∧ L.length ≤ 9223372036854775807 := by
    obtain ⟨_, a, cap, rfl, h1, h2, _⟩ := hL
    exact ⟨a, cap, rfl, by unfold maxLen at h2; omega⟩
  clear hmm hw hh hf hL hwf
  go_enter Try.func6, Try.ntmps6
  go_upto_region 1 with fail
  obtain ⟨w0, hw0, h0, hx0⟩ : ∃ w0, w.alloc (.cells m.C.toArray 23) = w0 ∧ MdAt w0 w.heap.size m ∧ Ext w w0 := ⟨_, rfl, heap_alloc_new _ _, (Ext.refl _).alloc _⟩
  rw [hw0]
  obtain ⟨r, hr⟩ : ∃ r, w.heap.size = r := ⟨_, rfl⟩
  have HR := Lib.hid hr
  rw [hr] at h0
  rw [hr]
  have HX0 := Lib.hid hx0
  have H0 := Lib.hid h0
  clear h0 hx0 hw0 hr
  go_upto_region 3 with (go_at_call 11; refine (wakes25_any _).mono ?_; rintro _ w1 ⟨rfl, hx1⟩)
  have HM1 := Lib.hid (H0.out.ext hx1)
  have HX1 := Lib.hid (HX0.out.trans hx1)
  have l1 := HM1.out.load
  have n1 := heap_lt HM1.out
  clear hx1 H0 HX0
  go_upto_region 4 with (go_at_call 12; refine (HSM.out _).mono ?_; rintro _ w3 ⟨rfl, hx3⟩; obtain ⟨t1, t2, t3⟩ := (HM1.out.ext hx3).store mm; have n3 := heap_lt (HM1.out.ext hx3))
  obtain ⟨w4, hw4⟩ : ∃ w4, w3.setCells r 0 mm.C = w4 := ⟨_, rfl⟩
  rw [hw4] at t2 t3
  rw [hw4]
  have HM4 := Lib.hid t2
  have HX4 : Hid (Ext w w4) := Lib.hid ((HX1.out.trans hx3).chgTrans t3 (by rw [HR.out]; simp))
  have d0 : w4.cell? ⟨r, 0, none⟩ = some (.int .i64 mm.w) := cell_of_heap t2 rfl
  have d1 : w4.cell? ⟨r, 1, none⟩ = some (.int .i64 mm.h) := cell_of_heap t2 rfl
  have d2 : w4.cell? ⟨r, 2, none⟩ = some (.int .i64 mm.f) := cell_of_heap t2 rfl
  have d3 : w4.cell? ⟨r, 3, none⟩ = some (.bool mm.dep) := cell_of_heap t2 rfl
  have d4 : w4.cell? ⟨r, 4, none⟩ = some (.bool mm.sten) := cell_of_heap t2 rfl
  have n4 := heap_lt t2
  clear hw4 t1 t2 t3 hx3 n3 l1 n1 HM1 HX1 HSM
  cases hmay : mayV mm.w mm.h mm.f
  · have HN := Lib.hid (fun w => newp_bad mm.w mm.h mm.f mm.dep mm.sten w hmay)
    have HCO := Lib.hid (fun w => cost_bad mm.w mm.h mm.f mm.dep mm.sten w hmay)
    have HRI := Lib.hid (fun w => dright_any mm.w mm.h mm.f w)
    rw [hmay] at HRI
    clear hmay
    go_wp2_with (first | (go_at_call 13; refine (HN.out _).mono ?_; rintro _ _ ⟨rfl, rfl⟩) | (go_at_call 26; refine (HCO.out _).mono ?_; rintro _ _ ⟨rfl, rfl⟩) | (go_at_call 27; refine (HRI.out _).mono ?_; rintro _ _ ⟨rfl, rfl⟩))
    go_ret
    exact ⟨by first | rfl | simp, HX4.out⟩
  · obtain ⟨h1, h3, h2, h4, h5, h6⟩ := may_true hmay
    obtain ⟨mw, mh, mf, md, ms, mn⟩ := mm
    obtain ⟨W, rfl⟩ : ∃ W : Nat, mw = W := ⟨mw.toNat, by show _ = _; simp only at h1; omega⟩
    obtain ⟨H, rfl⟩ : ∃ H : Nat, mh = H := ⟨mh.toNat, by show _ = _; simp only at h3; omega⟩
    obtain ⟨F, rfl⟩ : ∃ F : Nat, mf = F := ⟨mf.toNat, by show _ = _; simp only at h5; omega⟩
    simp only at h1 h2 h3 h4 h5 h6 hmay d0 d1 d2 d3 d4
    have HN := Lib.hid (fun w => newp_any W H F md ms w hmay)
    have HCO := Lib.hid (fun w => cost_any W H F md ms w hmay)
    have HDN := Lib.hid (fun w => dnew_any W H F md ms w hmay)
    have HRI := Lib.hid (fun w => dright_any W H F w)
    rw [hmay] at HRI
    have hsz := szN_bd F
    have HSZ := Lib.hid (fun w => refSize_any F w)
    rw [szN_V F (by omega) (by omega)] at HSZ
    have hWH := Nat.mul_le_mul (show W ≤ 64 by omega) (show H ≤ 64 by omega)
    have hok := plZ_ok md ms (show 1 ≤ W by omega) (show W ≤ 64 by omega) (show 1 ≤ H by omega) (show H ≤ 64 by omega) (show 1 ≤ F by omega) (show F ≤ 4 by omega)
    have HOK := Lib.hid hok
    have HBD : Hid (1 ≤ W ∧ W ≤ 64 ∧ 1 ≤ H ∧ H ≤ 64) := Lib.hid (by omega)
    obtain ⟨want, hwant⟩ : ∃ want, szN F + (if md then 2 else 0) + (if ms then 1 else 0) = want := ⟨_, rfl⟩
    have hw7 : want ≤ 7 := by rw [← hwant]; cases md <;> cases ms <;> simp <;> omega
    have hcv : costV W H F md ms = want * W * H := by
      unfold costV
      rw [hwant, Nat.mul_comm, Nat.mul_assoc]
    rw [hcv] at HCO
    have s1 : IntKind.i64.wrap ((want : Int) * (W : Int)) = ((want * W : Nat) : Int) := by
      have := Nat.mul_le_mul hw7 (show W ≤ 64 by omega)
      rw [← Int.natCast_mul]; exact IntWalk.i64_in _ (by omega)
    have s2 : IntKind.i64.wrap (((want * W : Nat) : Int) * (H : Int)) = ((want * W * H : Nat) : Int) := by
      have := Nat.mul_le_mul (Nat.mul_le_mul hw7 (show W ≤ 64 by omega)) (show H ≤ 64 by omega)
      rw [← Int.natCast_mul]; exact IntWalk.i64_in _ (by omega)
    obtain ⟨ww, hww⟩ : ∃ ww, want * W = ww := ⟨_, rfl⟩
    obtain ⟨cc, hcc⟩ : ∃ cc, ww * H = cc := ⟨_, rfl⟩
    rw [hww] at s1 s2 HCO
    rw [hcc] at s2 HCO
    have HWANT := Lib.hid hwant
    clear hcv hww hcc hwant hok hmay h1 h2 h3 h4 h5 h6 hw7
    have HMD : Hid (∀ w', Ext w4 w' → w'.cell? ⟨r, 0, none⟩ = some (.int .i64 W) ∧ w'.cell? ⟨r, 1, none⟩ = some (.int .i64 H) ∧ w'.cell? ⟨r, 2, none⟩ = some (.int .i64 F) ∧ w'.cell? ⟨r, 3, none⟩ = some (.bool md) ∧ w'.cell? ⟨r, 4, none⟩ = some (.bool ms) ∧ r < w'.heap.size) := Lib.hid (fun w' x' => ⟨cell_of_heap (x'.heap HM4.out) rfl, cell_of_heap (x'.heap HM4.out) rfl, cell_of_heap (x'.heap HM4.out) rfl, cell_of_heap (x'.heap HM4.out) rfl, cell_of_heap (x'.heap HM4.out) rfl, heap_lt (x'.heap HM4.out)⟩)
    go_upto_region 5 with (go_at_call 13; refine (HN.out _).mono ?_; rintro _ w5 ⟨B, rfl, b1, b2, b3, b4, hp5, hx5⟩)
    have HB : Hid (r < B.p ∧ r < B.c ∧ r < B.d ∧ r < B.m) := Lib.hid (by omega)
    have HP5 := Lib.hid hp5
    have HX45 := Lib.hid hx5
    clear hp5 hx5 b1 b2 b3 b4 d0 d1 d2 d3 d4 n4 HN
    obtain ⟨d0, d1, d2, d3, d4, n4⟩ := HMD.out _ HX45.out
    go_upto_region 6 with (go_at_call 26; refine (HCO.out _).mono ?_; rintro _ w6 ⟨rfl, hx6⟩)
    have HX46 := Lib.hid (HX45.out.trans hx6)
    have HP6 := Lib.hid (HP5.out.ext hx6)
    clear hx6 d0 d1 d2 d3 d4 n4 HX45 HP5 HCO
    obtain ⟨d0, d1, d2, d3, d4, n4⟩ := HMD.out _ HX46.out
    go_upto_region 11 with (first | (go_at_call 27; refine (HRI.out _).mono ?_; rintro _ _ ⟨rfl, rfl⟩) | (go_at_call 28; refine (HSZ.out _).mono ?_; rintro _ _ ⟨rfl, rfl⟩))
    have hA : IntKind.i64.wrap (((szN F : Nat) : Int) + 2) = ((szN F + 2 : Nat) : Int) := IntWalk.i64_in _ (by omega)
    go_upto_if 77 with fail
    go_cut [8] from 78 to 79 (fun t wc => t = .int .i64 ((szN F + (if md then 2 else 0) : Nat) : Int) ∧ w6 = wc)
    case first =>
      cases md
      · go_wp2_with fail
        go_meet
        exact ⟨rfl, rfl⟩
      · go_wp2_with fail
        go_meet
        exact ⟨rfl, rfl⟩
    obtain ⟨rfl, rfl⟩ := hcut
    obtain ⟨wn, hwn⟩ : ∃ wn, szN F + (if md then 2 else 0) = wn := ⟨_, rfl⟩
    rw [hwn]
    have hwb : wn ≤ 6 := by rw [← hwn]; cases md <;> simp <;> omega
    have HWN := Lib.hid hwn
    have hB : IntKind.i64.wrap ((wn : Int) + 1) = ((wn + 1 : Nat) : Int) := IntWalk.i64_in _ (by omega)
    clear hA hwn
    go_upto_if 81 with fail
    go_cut [8] from 82 to 83 (fun t wc => t = .int .i64 ((want : Nat) : Int) ∧ w6 = wc)
    case first =>
      have HQ : Hid (want = wn + if ms then 1 else 0) := Lib.hid (by rw [← HWANT.out, HWN.out])
      cases ms
      · go_wp2_with fail
        go_meet
        exact ⟨by rw [HQ.out]; rfl, rfl⟩
      · go_wp2_with fail
        go_meet
        exact ⟨by rw [HQ.out]; rfl, rfl⟩
    obtain ⟨rfl, rfl⟩ := hcut
    clear hB hwb HWN d0 d1 d2 d3 d4 n4 HRI HSZ
    have HSD : Hid (Calls Try.prog 22 #[.pointer (some ⟨B.p, 0, none⟩)] w6 fun e w' => e = .returned (.tuple #[.int .i64 W, .int .i64 H]) ∧ Ext w6 w') := Lib.hid (sides_any B _ w6 HP6.out)
    go_upto_region 16 with (go_at_call 22; refine HSD.out.mono ?_; rintro _ w7 ⟨rfl, hx7⟩)
    have HX47 := Lib.hid (HX46.out.trans hx7)
    have HP7 := Lib.hid (HP6.out.ext hx7)
    clear hx7 HSD
    have HHS : Hid (Calls Try.prog 23 #[.pointer (some ⟨B.p, 0, none⟩)] w7 fun e w' => e = .returned (.tuple #[.bool md, .bool ms]) ∧ Ext w7 w') := Lib.hid (has_any B _ w7 HP7.out)
    go_upto_region 17 with (go_at_call 23; refine HHS.out.mono ?_; rintro _ w8 ⟨rfl, hx8⟩)
    have HX48 := Lib.hid (HX47.out.trans hx8)
    have HP8 := Lib.hid (HP7.out.ext hx8)
    clear hx8 HHS HX47 HP7 HX46 HP6
    have HKEEP : Hid (∀ w', Ext w8 w' → w'.cell? ⟨r, 0, none⟩ = some (.int .i64 W) ∧ w'.cell? ⟨r, 1, none⟩ = some (.int .i64 H) ∧ w'.cell? ⟨r, 2, none⟩ = some (.int .i64 F) ∧ w'.cell? ⟨r, 3, none⟩ = some (.bool md) ∧ w'.cell? ⟨r, 4, none⟩ = some (.bool ms)) := Lib.hid (fun w' x' => by obtain ⟨a0, a1, a2, a3, a4, _⟩ := HMD.out w' (HX48.out.trans x'); exact ⟨a0, a1, a2, a3, a4⟩)
    have nr := (HMD.out w8 HX48.out).2.2.2.2.2
    have X0 := Lib.hid (show Ext w8 w8.drew from (Ext.refl _).drew)
    have HFO : Hid (∀ w', Ext w8 w' → Calls Try.prog 25 #[.pointer (some ⟨B.p, 0, none⟩)] w' fun e w'' => e = .returned (.int .i64 F) ∧ Ext w' w'') := Lib.hid (fun w' x' => format_any B _ w' (HP8.out.ext x'))
    go_region_held3 (fun w' => w'.cell? ⟨r, 0, none⟩ = some (.int .i64 W) ∧ w'.cell? ⟨r, 1, none⟩ = some (.int .i64 H) ∧ w'.cell? ⟨r, 2, none⟩ = some (.int .i64 F) ∧ w'.cell? ⟨r, 3, none⟩ = some (.bool md) ∧ w'.cell? ⟨r, 4, none⟩ = some (.bool ms)) (first | exact HKEEP.out _ X0.out | exact HKEEP.out _ (Ext.refl _) | exact HKEEP.out _ X9.out) (first
      | (go_at_call 25; refine (HFO.out _ X0.out).mono ?_; rintro _ w9 ⟨rfl, hx9⟩; have X9 := Lib.hid (X0.out.trans hx9)))
    have HX49 := Lib.hid (HX48.out.trans X9.out)
    have HP9 := Lib.hid (HP8.out.ext X9.out)
    clear hx9 X0 X9 HKEEP HFO HX48 HP8 nr
    obtain ⟨d0, d1, d2, d3, d4, n4⟩ := HMD.out _ HX49.out
    have s3 : IntKind.i64.wrap ((W : Int) * (H : Int)) = ((W * H : Nat) : Int) := by rw [← Int.natCast_mul]; exact IntWalk.i64_in _ (by omega)
    obtain ⟨N, hN⟩ : ∃ N, W * H = N := ⟨_, rfl⟩
    rw [hN] at s3
    clear hN
    by_cases hbig : 64 < N
    · have hbi : (64 : Int) < ((N : Nat) : Int) := by omega
      go_wp2_with fail
      go_ret
      exact ⟨rfl, HX4.out.trans HX49.out⟩
    · have hbi : ¬ (64 : Int) < ((N : Nat) : Int) := by omega
      go_upto_region 22 with (go_at_call 29; refine (HDN.out _).mono ?_; rintro _ wa ⟨v0, L0, rfl, hd0, hxa⟩; obtain ⟨wb, hst, hq, hcb⟩ := dp_put (w := wa.alloc (.cells #[.int .i64 0, .int .i64 0, .int .i64 0, .bool false, .bool false, .slice none 0 0] 76)) (heap_alloc_new wa (.cells #[.int .i64 0, .int .i64 0, .int .i64 0, .bool false, .bool false, .slice none 0 0] 76)) (plZ W H F md ms) hd0.one)
      obtain ⟨b13, hb13⟩ : ∃ b13, wa.heap.size = b13 := ⟨_, rfl⟩
      rw [hb13] at hq hcb
      rw [hb13]
      obtain ⟨bse, hbse⟩ : ∃ bse, w9.heap.size = bse := ⟨_, rfl⟩
      have hxab : Ext wa wb := ((Ext.refl _).alloc _).chgTrans hcb (by simp; omega)
      have HXB : Hid (Ext w wb) := Lib.hid ((HX4.out.trans HX49.out).trans (hxa.trans hxab))
      have HBB : Hid (bse ≤ b13 ∧ B.p < bse ∧ B.c < bse ∧ B.d < bse ∧ B.m < bse ∧ w.heap.size ≤ B.c ∧ w.heap.size ≤ B.d ∧ w.heap.size ≤ B.m ∧ w.heap.size ≤ b13) := Lib.hid (by
        have h1 := heap_lt HP9.out.p
        have h2 := heap_lt HP9.out.c
        have h3 := heap_lt HP9.out.d
        have h4 := heap_lt HP9.out.m
        have h5 := hxa.size
        have h6 := HB.out
        have h7 := (HX4.out.trans HX49.out).size
        have h8 := HR.out
        omega)
      have HIN0 : Hid (DInv B b13 bse w wb) := Lib.hid ⟨_, _, _, HP9.out.ext (hxa.trans hxab), hq, (hd0.mono (G' := fun k => bse ≤ k ∧ k ≠ b13) (fun k hk hg => ⟨by rw [← hbse]; exact hg, by omega⟩)).ext hxab, HXB.out, HBB.out⟩
      clear hq hcb hxab hxa hd0 hst hb13 hbse d0 d1 d2 d3 d4 n4 HX49 HP9 HMD s1 s2 s3
      go_upto_block 0 with fail
      go_cut [] from 14 to 337 (fun wc => Hid (DInv B b13 bse w wc))
      case first =>
        go_wp2_with fail
        go_loopw [153] (fun i wr => ∃ k : Nat, k ≤ L.length ∧ i = .int .i64 k ∧ Hid (DInv B b13 bse w wr)) (fun i _ => (L.length - (intOf i).toNat))
        case atStart => exact ⟨0, Nat.zero_le _, rfl, HIN0⟩
        case round => as_aux_lemma =>
          rename World => wr
          obtain ⟨k, hk, rfl, HI⟩ := hrel
          by_cases hlt : k < L.length
          · have hki : (k : Int) < (L.length : Int) := by omega
            obtain ⟨P, vd, Ld, hs⟩ := HI.out
            have HS := Lib.hid hs
            obtain ⟨o, ho⟩ : ∃ o, L[k]? = some o := ⟨_, List.getElem?_eq_getElem hlt⟩
            have HOW := Lib.hid (HWF.out o (List.mem_of_getElem? ho))
            obtain ⟨b, off, rfl, hb, hld⟩ := (HL.out.ext hs.x).load ho
            obtain ⟨w6, hst6, h6, hx6⟩ := newOp wr o HOW.out.vs
            have H6 := Lib.hid h6
            have HX6 := Lib.hid hx6
            clear hs h6 hx6 ho
            go_upto_region 25 with fail
            obtain ⟨bo, hbo⟩ : ∃ bo, wr.heap.size = bo := ⟨_, rfl⟩
            have HBO : Hid (wr.heap.size = bo ∧ b13 < bo) := Lib.hid ⟨hbo, by have := HS.out.n; omega⟩
            rw [hbo] at H6
            rw [hbo]
            clear hbo hld hst6 hb
            by_cases h20 : k = 20
            · subst h20
              go_wp2_with fail
              go_meet
              exact Lib.hid ⟨P, vd, Ld, HS.out.ext HX6.out⟩
            · have hk20 : ((k : Int) == 20) = false := by simp; omega
              have ls := H6.out.loadS
              have n6 := heap_lt H6.out
              go_upto_region 27 with (go_at_call 30; refine (right_any o.st _).mono ?_; rintro _ w7 ⟨rfl, hx7⟩)
              have HX7 := Lib.hid (HX6.out.trans hx7)
              have H7 := Lib.hid (H6.out.ext hx7)
              have HS7 := Lib.hid (HS.out.ext HX7.out)
              have HOB : Hid (b13 < bo ∧ bo ≠ B.c ∧ bo ≠ B.d ∧ bo ≠ B.m) := Lib.hid (by have h1 := HBO.out; have h2 := HS.out.bb; omega)
              clear hx7 ls n6 H6 HX6
              have c0 : w7.cell? ⟨bo, 0, none⟩ = some (.int .i64 o.kind) := cell_of_heap H7.out rfl
              have n7 := heap_lt H7.out
              obtain ⟨sk, hsk⟩ : ∃ sk, stOk o.st = sk := ⟨_, rfl⟩
              have HSK := Lib.hid hsk
              rw [hsk]
              clear hsk
              obtain ⟨qa, hqa⟩ : ∃ qa, o.kind.tmod 4 = qa := ⟨_, rfl⟩
              obtain ⟨qb, hqb⟩ : ∃ qb, IntKind.i64.wrap (qa + 4) = qb := ⟨_, rfl⟩
              obtain ⟨q, hq⟩ : ∃ q, qb.tmod 4 = q := ⟨_, rfl⟩
              go_upto_region 29 with fail
              clear c0 n7 hqa hqb hq
              by_cases q0 : q = 0
              · as_aux_lemma =>
                  subst q0
                  have lp := DpAt.load HS7.out.d
                  have lc := H7.out.loadC
                  have c1 : w7.cell? ⟨bo, 1, none⟩ = some (.int .i64 o.x) := cell_of_heap H7.out rfl
                  have c2 : w7.cell? ⟨bo, 2, none⟩ = some (.int .i64 o.y) := cell_of_heap H7.out rfl
                  have n7 := heap_lt H7.out
                  have n13 := HS7.out.n
                  cases hin : inP P.W P.H o.x o.y
                  · have HIN := Lib.hid (fun w => din_any P vd o.x o.y w)
                    rw [hin] at HIN
                    have HLO := Lib.hid (fun w' h => layp_out B P o.x o.y o.ce hin w' h)
                    clear hin
                    go_wp2_with (first | (go_at_call 31; refine (HIN.out _).mono ?_; rintro _ w8 ⟨rfl, hx8⟩; have HS8 := Lib.hid (HS7.out.ext hx8); have H8 := Lib.hid (H7.out.ext hx8); have e1 : w8.cell? ⟨bo, 1, none⟩ = some (.int .i64 o.x) := cell_of_heap H8.out rfl; have e2 : w8.cell? ⟨bo, 2, none⟩ = some (.int .i64 o.y) := cell_of_heap H8.out rfl; have m7 := heap_lt H8.out; have m13 := HS8.out.n; have lc8 := H8.out.loadC) | (go_at_call 19; refine (HLO.out _ HS8.out.p).mono ?_; rintro _ w9 ⟨rfl, hx9⟩))
                    go_roundw
                    case rel => exact ⟨k + 1, by omega, by go_num, Lib.hid (show DInv B b13 bse w _ from ⟨P, vd, Ld, HS8.out.ext hx9⟩)⟩
                    case measure => simp [intOf]; omega
                  · have HIN := Lib.hid (fun w => din_any P vd o.x o.y w)
                    rw [hin] at HIN
                    have HMA := Lib.hid (fun w => dmay_any o.ce w)
                    cases hma : mayB o.ce
                    · rw [hma] at HMA
                      have HLO := Lib.hid (fun w' h => layp_badZ B P o.x o.y o.ce hin hma w' h)
                      clear hin hma
                      go_wp2_with (first | (go_at_call 31; refine (HIN.out _).mono ?_; rintro _ w8 ⟨rfl, hx8⟩; have HS8 := Lib.hid (HS7.out.ext hx8); have H8 := Lib.hid (H7.out.ext hx8); have e1 : w8.cell? ⟨bo, 1, none⟩ = some (.int .i64 o.x) := cell_of_heap H8.out rfl; have e2 : w8.cell? ⟨bo, 2, none⟩ = some (.int .i64 o.y) := cell_of_heap H8.out rfl; have m7 := heap_lt H8.out; have m13 := HS8.out.n; have lc8 := H8.out.loadC) | (go_at_call 32; refine (HMA.out _).mono ?_; rintro _ w9 ⟨rfl, hx9⟩; have HS9 := Lib.hid (HS8.out.ext hx9); have H9 := Lib.hid (H8.out.ext hx9); have f1 : w9.cell? ⟨bo, 1, none⟩ = some (.int .i64 o.x) := cell_of_heap H9.out rfl; have f2 : w9.cell? ⟨bo, 2, none⟩ = some (.int .i64 o.y) := cell_of_heap H9.out rfl; have o7 := heap_lt H9.out; have o13 := HS9.out.n; have lc9 := H9.out.loadC; have lp9 := DpAt.load HS9.out.d) | (go_at_call 19; refine (HLO.out _ HS9.out.p).mono ?_; rintro _ w10 ⟨rfl, hx10⟩))
                      go_roundw
                      case rel => exact ⟨k + 1, by omega, by go_num, Lib.hid (show DInv B b13 bse w _ from ⟨P, vd, Ld, HS9.out.ext hx10⟩)⟩
                      case measure => simp [intOf]; omega
                    · rw [hma] at HMA
                      have HLO := Lib.hid (fun w' h => layp_okZ B P o.x o.y o.ce hin hma w' h)
                      have HDL := Lib.hid (fun w' h hG => dlay_anyZ (fun k => bse ≤ k ∧ k ≠ b13) P vd Ld o.x o.y o.ce hin hma w' h hG)
                      obtain ⟨P1, hP1⟩ : ∃ P1, layV P (o.y.toNat * P.W + o.x.toNat) o.ce = P1 := ⟨_, rfl⟩
                      rw [hP1] at HLO HDL
                      clear hin hma hP1
                      go_upto_region 32 with (first | (go_at_call 31; refine (HIN.out _).mono ?_; rintro _ w8 ⟨rfl, hx8⟩; have HS8 := Lib.hid (HS7.out.ext hx8); have H8 := Lib.hid (H7.out.ext hx8); have e1 : w8.cell? ⟨bo, 1, none⟩ = some (.int .i64 o.x) := cell_of_heap H8.out rfl; have e2 : w8.cell? ⟨bo, 2, none⟩ = some (.int .i64 o.y) := cell_of_heap H8.out rfl; have m7 := heap_lt H8.out; have m13 := HS8.out.n; have lc8 := H8.out.loadC) | (go_at_call 32; refine (HMA.out _).mono ?_; rintro _ w9 ⟨rfl, hx9⟩; have HS9 := Lib.hid (HS8.out.ext hx9); have H9 := Lib.hid (H8.out.ext hx9); have f1 : w9.cell? ⟨bo, 1, none⟩ = some (.int .i64 o.x) := cell_of_heap H9.out rfl; have f2 : w9.cell? ⟨bo, 2, none⟩ = some (.int .i64 o.y) := cell_of_heap H9.out rfl; have o7 := heap_lt H9.out; have o13 := HS9.out.n; have lc9 := H9.out.loadC; have lp9 := DpAt.load HS9.out.d))
                      clear lp lc c1 c2 n7 n13 e1 e2 m7 m13 lc8
                      go_upto_region 33 with (go_at_call 33; refine (HDL.out _ HS9.out.a HS9.out.new).mono ?_; rintro _ w10 ⟨v1, L1, rfl, hd10, hx10⟩; obtain ⟨w11, st11, hd11, hc11⟩ := dp_set (hx10.heap HS9.out.d) P1 hd10.one; have p13 := Nat.lt_of_lt_of_le o13 hx10.size)
                      have HS11 := Lib.hid ((HS9.out.ext hx10).doc hd10 hd11 hc11)
                      have H11 := Lib.hid ((H9.out.ext hx10).chg' hc11 (by have := HOB.out; simp; omega))
                      clear hx8 hx9 st11 hx10 hd10 hd11 hc11 lp9 lc9 f1 f2 o7 o13 p13
                      have c1 : w11.cell? ⟨bo, 1, none⟩ = some (.int .i64 o.x) := cell_of_heap H11.out rfl
                      have c2 : w11.cell? ⟨bo, 2, none⟩ = some (.int .i64 o.y) := cell_of_heap H11.out rfl
                      have n7 := heap_lt H11.out
                      have lc := H11.out.loadC
                      go_wp2_with (go_at_call 19; refine (HLO.out _ HS11.out.p).mono ?_; rintro _ w12 ⟨rfl, hp12, hc12⟩)
                      go_roundw
                      case rel => exact ⟨k + 1, by omega, by go_num, Lib.hid (show DInv B b13 bse w _ from ⟨P1, v1, L1, HS11.out.prog hp12 hc12⟩)⟩
                      case measure => simp [intOf]; omega
              · have z0 : (q == 0) = false := by simp [q0]
                go_upto_region 35 with fail
                clear z0
                by_cases q1 : q = 1
                · as_aux_lemma =>
                    subst q1
                    have ls := H7.out.loadS
                    have lf := H7.out.loadF
                    have lv := H7.out.loadV
                    have n7 := heap_lt H7.out
                    cases sk
                    · have HPB := Lib.hid (fun w' => paintp_bad B.p o.st o.fr o.col HSK.out w')
                      go_wp2_with (go_at_call 24; refine (HPB.out _).mono ?_; rintro _ w8 ⟨rfl, hx8⟩)
                      go_roundw
                      case rel => exact ⟨k + 1, by omega, by go_num, Lib.hid (show DInv B b13 bse w _ from ⟨P, vd, Ld, HS7.out.ext hx8⟩)⟩
                      case measure => simp [intOf]; omega
                    · cases hin : inP P.W P.H o.fr.x o.fr.y
                      · have HPO := Lib.hid (fun w' h => paintp_out B P o.st o.fr o.col HSK.out hin w' h)
                        have HDO := Lib.hid (fun w' => dpaint_out P vd HS7.out.a.one o.st o.fr o.col hin w')
                        clear hin
                        go_upto_region 40 with (go_at_call 24; refine (HPO.out _ HS7.out.p).mono ?_; rintro _ w8 ⟨rfl, hx8⟩)
                        have HS8 := Lib.hid (HS7.out.ext hx8)
                        have H8 := Lib.hid (H7.out.ext hx8)
                        clear ls lf lv n7
                        have ls := H8.out.loadS
                        have lf := H8.out.loadF
                        have lv := H8.out.loadV
                        have n7 := heap_lt H8.out
                        have lp := DpAt.load HS8.out.d
                        have n13 := HS8.out.n
                        go_upto_region 41 with (go_at_call 34; refine (HDO.out _).mono ?_; rintro _ w9 ⟨rfl, hx9⟩; obtain ⟨w10, st10, hq10, hc10⟩ := dp_put (w := w9.alloc (.cells #[.int .i64 0, .int .i64 0, .int .i64 0, .bool false, .bool false, .slice none 0 0] 76)) (heap_alloc_new w9 (.cells #[.int .i64 0, .int .i64 0, .int .i64 0, .bool false, .bool false, .slice none 0 0] 76)) P HS7.out.a.one)
                        obtain ⟨bt, hbt⟩ : ∃ bt, w9.heap.size = bt := ⟨_, rfl⟩
                        have hx10 : Ext w9 w10 := ((Ext.refl _).alloc _).chgTrans hc10 (by simp)
                        rw [hbt] at hq10
                        rw [hbt]
                        have HS10 := Lib.hid ((HS8.out.ext hx9).ext hx10)
                        clear ls lf lv n7 lp n13 hx8 hx9 st10 hc10 hbt
                        have lq := DpAt.load hq10
                        have n13 := HS10.out.n
                        have nt := heap_lt hq10
                        obtain ⟨w11, st11, hd11, hc11⟩ := dp_set HS10.out.d P HS10.out.a.one
                        go_wp2_with fail
                        go_roundw
                        case rel => exact ⟨k + 1, by omega, by go_num, Lib.hid (show DInv B b13 bse w _ from ⟨P, vd, Ld, HS10.out.doc HS10.out.a hd11 hc11⟩)⟩
                        case measure => simp [intOf]; omega
                      · have HPI := Lib.hid (fun w' h => paintp_in B P o.st o.fr o.col HSK.out hin w' h)
                        have HDI := Lib.hid (fun w' h hG => dpaint_in (fun k => bse ≤ k ∧ k ≠ b13) P vd Ld o.st o.fr o.col HSK.out hin w' h hG)
                        obtain ⟨P1, hP1⟩ : ∃ P1, ptP o.st o.fr o.col P = P1 := ⟨_, rfl⟩
                        rw [hP1] at HPI HDI
                        obtain ⟨pb, hpb⟩ : ∃ pb, (ptV o.st o.fr o.col P).2 = pb := ⟨_, rfl⟩
                        rw [hpb] at HPI HDI
                        clear hin hP1 hpb
                        go_upto_region 40 with (go_at_call 24; refine (HPI.out _ HS7.out.p).mono ?_; rintro _ w8 ⟨rfl, hp8, hc8⟩)
                        have HS8 := Lib.hid (HS7.out.prog hp8 hc8)
                        have H8 := Lib.hid (H7.out.chg' hc8 (by have := HOB.out; simp; omega))
                        clear ls lf lv n7
                        have ls := H8.out.loadS
                        have lf := H8.out.loadF
                        have lv := H8.out.loadV
                        have n7 := heap_lt H8.out
                        have lp := DpAt.load HS8.out.d
                        have n13 := HS8.out.n
                        go_upto_region 41 with (go_at_call 34; refine (HDI.out _ HS8.out.a HS8.out.new).mono ?_; rintro _ w9 ⟨v1, L1, rfl, hd9, hx9⟩; obtain ⟨w10, st10, hq10, hc10⟩ := dp_put (w := w9.alloc (.cells #[.int .i64 0, .int .i64 0, .int .i64 0, .bool false, .bool false, .slice none 0 0] 76)) (heap_alloc_new w9 (.cells #[.int .i64 0, .int .i64 0, .int .i64 0, .bool false, .bool false, .slice none 0 0] 76)) P1 hd9.one)
                        obtain ⟨bt, hbt⟩ : ∃ bt, w9.heap.size = bt := ⟨_, rfl⟩
                        have hx10 : Ext w9 w10 := ((Ext.refl _).alloc _).chgTrans hc10 (by simp)
                        rw [hbt] at hq10
                        rw [hbt]
                        have HS10 := Lib.hid ((HS8.out.ext hx9).ext hx10)
                        have HD10 := Lib.hid (hd9.ext hx10)
                        clear ls lf lv n7 lp n13 hp8 hc8 hx9 st10 hc10 hbt hd9
                        have lq := DpAt.load hq10
                        have n13 := HS10.out.n
                        have nt := heap_lt hq10
                        obtain ⟨w11, st11, hd11, hc11⟩ := dp_set HS10.out.d P1 HD10.out.one
                        cases pb
                        all_goals
                          go_wp2_with fail
                          go_roundw
                          case rel => exact ⟨k + 1, by omega, by go_num, Lib.hid (show DInv B b13 bse w _ from ⟨P1, v1, L1, HS10.out.doc HD10.out hd11 hc11⟩)⟩
                          case measure => simp [intOf]; omega
                · have z1 : (q == 1) = false := by simp [q1]
                  go_upto_region 44 with fail
                  clear z1
                  by_cases q2 : q = 2
                  · as_aux_lemma =>
                      subst q2
                      have ls := H7.out.loadS
                      have lv := H7.out.loadV
                      have c63 : w7.cell? ⟨bo, 63, none⟩ = some (.int .i32 o.dep) := cell_of_heap H7.out rfl
                      have c64 : w7.cell? ⟨bo, 64, none⟩ = some (.int .i64 o.what) := cell_of_heap H7.out rfl
                      have c65 : w7.cell? ⟨bo, 65, none⟩ = some (.int .i64 o.sten) := cell_of_heap H7.out rfl
                      have n7 := heap_lt H7.out
                      cases sk
                      · have HCB := Lib.hid (fun w' => clear_bad B.p o.st o.what o.dep o.sten o.col HSK.out w')
                        go_wp2_with (go_at_call 14; refine (HCB.out _).mono ?_; rintro _ w8 ⟨rfl, hx8⟩)
                        go_roundw
                        case rel => exact ⟨k + 1, by omega, by go_num, Lib.hid (show DInv B b13 bse w _ from ⟨P, vd, Ld, HS7.out.ext hx8⟩)⟩
                        case measure => simp [intOf]; omega
                      · by_cases g1 : o.what < 0
                        · have HCB := Lib.hid (fun w' => clear_arg B.p o.st o.what o.dep o.sten o.col HSK.out (.inl g1) w')
                          go_wp2_with (go_at_call 14; refine (HCB.out _).mono ?_; rintro _ w8 ⟨rfl, hx8⟩)
                          go_roundw
                          case rel => exact ⟨k + 1, by omega, by go_num, Lib.hid (show DInv B b13 bse w _ from ⟨P, vd, Ld, HS7.out.ext hx8⟩)⟩
                          case measure => simp [intOf]; omega
                        · by_cases g2 : 7 < o.what
                          · have HCB := Lib.hid (fun w' => clear_arg B.p o.st o.what o.dep o.sten o.col HSK.out (.inr g2) w')
                            go_wp2_with (go_at_call 14; refine (HCB.out _).mono ?_; rintro _ w8 ⟨rfl, hx8⟩)
                            go_roundw
                            case rel => exact ⟨k + 1, by omega, by go_num, Lib.hid (show DInv B b13 bse w _ from ⟨P, vd, Ld, HS7.out.ext hx8⟩)⟩
                            case measure => simp [intOf]; omega
                          · obtain ⟨n, hn⟩ : ∃ n : Nat, o.what = n := ⟨o.what.toNat, by omega⟩
                            rw [hn] at c64 g1 g2
                            have HDC := Lib.hid (fun w' h hG => dclear_any (fun k => bse ≤ k ∧ k ≠ b13) P vd Ld o.st n o.col o.dep o.sten HSK.out (by omega) w' h hG)
                            have HPC := Lib.hid (fun w' h => clear_any B P o.st n o.dep o.sten o.col HSK.out (by omega) w' h)
                            obtain ⟨P1, hP1⟩ : ∃ P1, clrV o.st n o.col o.dep o.sten P = P1 := ⟨_, rfl⟩
                            rw [hP1] at HDC HPC
                            have HNN := Lib.hid hn
                            clear hP1 hn
                            have lp := DpAt.load HS7.out.d
                            have n13 := HS7.out.n
                            go_upto_region 50 with (go_at_call 35; refine (HDC.out _ HS7.out.a HS7.out.new).mono ?_; rintro _ w8 ⟨v1, L1, rfl, hd8, hx8⟩; obtain ⟨w9, st9, hd9, hc9⟩ := dp_set (hx8.heap HS7.out.d) P1 hd8.one; have p13 := Nat.lt_of_lt_of_le n13 hx8.size)
                            have HS9 := Lib.hid ((HS7.out.ext hx8).doc hd8 hd9 hc9)
                            have H9 := Lib.hid ((H7.out.ext hx8).chg' hc9 (by have := HOB.out; simp; omega))
                            clear ls lv c63 c64 c65 n7 lp n13 hx8 hd8 st9 hd9 hc9 p13 g1 g2
                            have ls := H9.out.loadS
                            have lv := H9.out.loadV
                            have c63 : w9.cell? ⟨bo, 63, none⟩ = some (.int .i32 o.dep) := cell_of_heap H9.out rfl
                            have c65 : w9.cell? ⟨bo, 65, none⟩ = some (.int .i64 o.sten) := cell_of_heap H9.out rfl
                            have c64 : w9.cell? ⟨bo, 64, none⟩ = some (.int .i64 n) := by rw [← HNN.out]; exact cell_of_heap H9.out rfl
                            have n7 := heap_lt H9.out
                            go_wp2_with (go_at_call 14; refine (HPC.out _ HS9.out.p).mono ?_; rintro _ w10 ⟨rfl, hp10, hc10⟩)
                            go_roundw
                            case rel => exact ⟨k + 1, by omega, by go_num, Lib.hid (show DInv B b13 bse w _ from ⟨P1, v1, L1, HS9.out.prog hp10 hc10⟩)⟩
                            case measure => simp [intOf]; omega
                  · have z2 : (q == 2) = false := by simp [q2]
                    go_upto_region 52 with fail
                    clear z2
                    by_cases q3 : q = 3
                    · as_aux_lemma =>
                        subst q3
                        have c1 : w7.cell? ⟨bo, 1, none⟩ = some (.int .i64 o.x) := cell_of_heap H7.out rfl
                        have c2 : w7.cell? ⟨bo, 2, none⟩ = some (.int .i64 o.y) := cell_of_heap H7.out rfl
                        have c3 : w7.cell? ⟨bo, 3, none⟩ = some (.int .i64 o.w) := cell_of_heap H7.out rfl
                        have c4 : w7.cell? ⟨bo, 4, none⟩ = some (.int .i64 o.h) := cell_of_heap H7.out rfl
                        have n7 := heap_lt H7.out
                        by_cases hb : o.w < 0 ∨ o.h < 0 ∨ 64 < o.w ∨ 64 < o.h
                        · have HRA := Lib.hid (fun w' => read_arg B.p o.x o.y o.w o.h hb w')
                          have HB4 := Lib.hid hb
                          clear hb
                          go_upto_region 54 with (go_at_call 17; refine (HRA.out _).mono ?_; rintro _ w8 ⟨rfl, hx8⟩)
                          have H8 := Lib.hid (H7.out.ext hx8)
                          clear c1 c2 c3 c4 n7
                          have c3 : w8.cell? ⟨bo, 3, none⟩ = some (.int .i64 o.w) := cell_of_heap H8.out rfl
                          have c4 : w8.cell? ⟨bo, 4, none⟩ = some (.int .i64 o.h) := cell_of_heap H8.out rfl
                          have n7 := heap_lt H8.out
                          by_cases a1 : o.w < 0
                          · go_wp2_with fail
                            go_roundw
                            case rel => exact ⟨k + 1, by omega, by go_num, Lib.hid (show DInv B b13 bse w _ from ⟨P, vd, Ld, HS7.out.ext hx8⟩)⟩
                            case measure => simp [intOf]; omega
                          · by_cases a2 : o.h < 0
                            · go_wp2_with fail
                              go_roundw
                              case rel => exact ⟨k + 1, by omega, by go_num, Lib.hid (show DInv B b13 bse w _ from ⟨P, vd, Ld, HS7.out.ext hx8⟩)⟩
                              case measure => simp [intOf]; omega
                            · by_cases a3 : 64 < o.w
                              · go_wp2_with fail
                                go_roundw
                                case rel => exact ⟨k + 1, by omega, by go_num, Lib.hid (show DInv B b13 bse w _ from ⟨P, vd, Ld, HS7.out.ext hx8⟩)⟩
                                case measure => simp [intOf]; omega
                              · have a4 : 64 < o.h := by have := HB4.out; omega
                                go_wp2_with fail
                                go_roundw
                                case rel => exact ⟨k + 1, by omega, by go_num, Lib.hid (show DInv B b13 bse w _ from ⟨P, vd, Ld, HS7.out.ext hx8⟩)⟩
                                case measure => simp [intOf]; omega
                        · obtain ⟨n, hn⟩ : ∃ n : Nat, o.w = n := ⟨o.w.toNat, by omega⟩
                          obtain ⟨m, hm⟩ : ∃ m : Nat, o.h = m := ⟨o.h.toNat, by omega⟩
                          rw [hn] at c3
                          rw [hm] at c4
                          have hn4 : n ≤ 64 := by omega
                          have hm4 : m ≤ 64 := by omega
                          have a1 : ¬ (n : Int) < 0 := by omega
                          have a2 : ¬ (m : Int) < 0 := by omega
                          have a3 : ¬ 64 < (n : Int) := by omega
                          have a4 : ¬ 64 < (m : Int) := by omega
                          have HRP := Lib.hid (fun w' h => read_any B P o.x o.y n m HOW.out.x HOW.out.y hn4 hm4 w' h)
                          have HDR := Lib.hid (fun w' h => dread_any (fun k => bse ≤ k ∧ k ≠ b13) P vd Ld o.x o.y n m HOW.out.x HOW.out.y hn4 hm4 w' h)
                          have HRI := Lib.hid (fun (w' : World) (g : Nat) h => read_ints (w := w') (g := g) HS7.out.a.ok HOW.out.x HOW.out.y hn4 hm4 h)
                          obtain ⟨bs, hbs⟩ : ∃ bs, rdV P o.x o.y n m = bs := ⟨_, rfl⟩
                          rw [hbs] at HRP HDR HRI
                          have HNM := Lib.hid (And.intro hn hm)
                          clear hbs hn hm hb hn4 hm4
                          generalize 4 * n * m = N at *
                          go_upto_region 54 with (go_at_call 17; refine (HRP.out _ HS7.out.p).mono ?_; rintro _ w8 ⟨g, rfl, hg, hr8, hx8⟩)
                          have HI8 := Lib.hid (HRI.out _ _ hr8)
                          have H8 := Lib.hid (H7.out.ext hx8)
                          have HS8 := Lib.hid (HS7.out.ext hx8)
                          have HWX := Lib.hid hx8
                          clear c1 c2 c3 c4 n7 hg hr8 HRP HRI hx8
                          have c1 : w8.cell? ⟨bo, 1, none⟩ = some (.int .i64 o.x) := cell_of_heap H8.out rfl
                          have c2 : w8.cell? ⟨bo, 2, none⟩ = some (.int .i64 o.y) := cell_of_heap H8.out rfl
                          have c3 : w8.cell? ⟨bo, 3, none⟩ = some (.int .i64 n) := by rw [← HNM.out.1]; exact cell_of_heap H8.out rfl
                          have c4 : w8.cell? ⟨bo, 4, none⟩ = some (.int .i64 m) := by rw [← HNM.out.2]; exact cell_of_heap H8.out rfl
                          have n7 := heap_lt H8.out
                          have lp := DpAt.load HS8.out.d
                          have n13 := HS8.out.n
                          go_wp2_with (first | (go_at_call 37; refine (HDR.out _ HS8.out.a).mono ?_; rintro _ w9 ⟨u, rfl, hu9, hx9⟩; have HSM := Lib.hid (same_any _ u bs bs w9 (HI8.out.ext hx9) hu9); rw [show decide (bs = bs) = true by simp] at HSM) | (go_at_call 36; refine HSM.out.mono ?_; rintro _ w10 ⟨rfl, hx10⟩))
                          go_roundw
                          case rel => exact ⟨k + 1, by omega, by go_num, Lib.hid (show DInv B b13 bse w _ from ⟨P, vd, Ld, (HS8.out.ext hx9).ext hx10⟩)⟩
                          case measure => simp [intOf]; omega
                    · have z3 : (q == 3) = false := by simp [q3]
                      go_wp2_with fail
                      go_roundw
                      case rel => exact ⟨k + 1, by omega, by go_num, Lib.hid (show DInv B b13 bse w _ from ⟨P, vd, Ld, HS7.out⟩)⟩
                      case measure => simp [intOf]; omega
          · obtain rfl : k = L.length := by omega
            go_wp2_with fail
            go_meet
            exact HI
      case rest => as_aux_lemma =>
        rename World => wz
        obtain ⟨P, vz, Lz, hsx⟩ := hcut.out
        have hpz := hsx.p
        have hdz := hsx.d
        have haz := hsx.a
        have hxz := hsx.x
        have HTO := Lib.hid (dtold_any _ B P vz Lz wz hpz haz)
        have lz := DpAt.load hdz
        have nz := heap_lt hdz
        have HXZ := Lib.hid hxz
        clear hpz hdz haz hxz hsx hcut
        go_wp2_with (go_at_call 38; refine HTO.out.mono ?_; rintro _ wy ⟨rfl, hxy⟩)
        go_ret
        exact ⟨rfl, HXZ.out.trans hxy⟩
/-- Its arguments are whatever they are. -/
theorem does_arg (W : World) (v0 v1 : Value) (h0 : ArgIs Try.prog W 23 v0) (h1 : ArgIs Try.prog W 52 v1) : Calls Try.prog 6 #[v0, v1] W fun e w' => e = .returned (.bool true) ∧ Ext W w' := by
  obtain ⟨m, rfl, hw, hh, hf⟩ := mdIn h0
  obtain ⟨L, hL, hwf⟩ := ops_arg h1
  exact does_walk m hw hh hf v1 L hwf W hL
end
end Go.Proofs.Ytgdcdkajicgliaa
