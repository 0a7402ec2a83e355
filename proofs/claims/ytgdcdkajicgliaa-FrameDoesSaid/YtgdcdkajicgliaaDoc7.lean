/- The document's Clear. Conditions: each theorem's own premises. -/
import Derived.Test.YtgdcdkajicgliaaDoc6
import Derived.Test.YtgdcdkajicgliaaFraK
namespace Go.Proofs.Ytgdcdkajicgliaa
open Go.RowKit
set_option linter.unusedVariables false
set_option linter.unusedSimpArgs false
set_option maxRecDepth 100000

/-- Planes, cleared before a cell. -/
def ckP (s : St) (what : Nat) (color : V4) (dep sten : Int) (P : Pl) (y x : Nat) : Pl := (boxB (clrX s P) P.W y ++ boxR (clrX s P) y x).foldl (clrS s what color dep sten) P
theorem ck_dim (s : St) (what : Nat) (color : V4) (dep sten : Int) (P : Pl) (y x : Nat) : (ckP s what color dep sten P y x).W = P.W ∧ (ckP s what color dep sten P y x).H = P.H :=
  ⟨(fold_dim s what color dep sten _ P).1, (fold_dim s what color dep sten _ P).2.1⟩
theorem ck_zero (s : St) (what : Nat) (color : V4) (dep sten : Int) (P : Pl) : ckP s what color dep sten P 0 0 = P := rfl
theorem ck_row (s : St) (what : Nat) (color : V4) (dep sten : Int) (P : Pl) (y : Nat) : ckP s what color dep sten P y P.W = ckP s what color dep sten P (y + 1) 0 := by
  unfold ckP
  rw [boxB_succ, show boxR (clrX s P) (y + 1) 0 = [] from rfl, List.append_nil]
theorem ck_end (s : St) (what : Nat) (color : V4) (dep sten : Int) (P : Pl) : ckP s what color dep sten P P.H 0 = clrV s what color dep sten P := by
  unfold ckP clrV
  rw [show boxR (clrX s P) P.H 0 = [] from rfl, List.append_nil]
theorem ck_no {s : St} {P : Pl} {y x : Nat} (h : inX (clrX s P) x y = false) (what : Nat) (color : V4) (dep sten : Int) : ckP s what color dep sten P y (x + 1) = ckP s what color dep sten P y x := by
  unfold ckP
  rw [boxR_no h]
theorem ck_yes {s : St} {P : Pl} {y x : Nat} (h : inX (clrX s P) x y = true) (what : Nat) (color : V4) (dep sten : Int) : ckP s what color dep sten P y (x + 1) = layV (ckP s what color dep sten P y x) (y * P.W + x) (clrC s what color dep sten (cellV (ckP s what color dep sten P y x) (y * P.W + x))) := by
  have hd := (ck_dim s what color dep sten P y x).1
  conv => lhs; unfold ckP
  rw [boxR_yes h, ← List.append_assoc, List.foldl_append]
  show clrS s what color dep sten (ckP s what color dep sten P y x) (x, y) = _
  unfold clrS
  show layV (ckP s what color dep sten P y x) (y * (ckP s what color dep sten P y x).W + x) _ = _
  rw [hd]
/-- A whole block is stored anew. -/
theorem dp_set {w : World} {b : Nat} {P0 : Pl} {v0 : Value} (h : DpAt w b P0 v0) (P : Pl) {v : Value} (hv : v.oneCell' = true) : ∃ w', (@Classical.epsilon _ neG (StF 76 (.pointer (some ⟨b, 0, none⟩)) (.agg (P.D v).toArray))).run Try.prog w = .ok () w' ∧ DpAt w' b P v ∧ Chg [b] w w' := by
  obtain ⟨t1, t2, t3⟩ := stF_mid 76 (L := P0.D v0) h 0 (P.D v) (by simp [Pl.D]) (by kernel_rfl) (by have hv' := hv; unfold Value.oneCell' at hv'; simp [Pl.D, Value.oneCell'] at hv' ⊢; exact hv')
  have e : (List.take 0 (P0.D v0) ++ P.D v ++ List.drop (0 + (P.D v).length) (P0.D v0)) = P.D v := by simp [Pl.D]
  rw [e] at t2
  exact ⟨_, t1, t2, t3⟩
theorem heap_4 (w : World) (A B C D : Obj) : ((((w.alloc A).alloc B).alloc C).alloc D).heap[w.heap.size]? = some A ∧ ((((w.alloc A).alloc B).alloc C).alloc D).heap[w.heap.size + 1]? = some B ∧ ((((w.alloc A).alloc B).alloc C).alloc D).heap[w.heap.size + 1 + 1]? = some C ∧ ((((w.alloc A).alloc B).alloc C).alloc D).heap[w.heap.size + 1 + 1 + 1]? = some D ∧ Ext w ((((w.alloc A).alloc B).alloc C).alloc D) := by
  have x1 : ∀ (v : World) (X : Obj), Ext v (v.alloc X) := fun v X => (Ext.refl _).alloc _
  have hs : ∀ (v : World) (X : Obj), (v.alloc X).heap.size = v.heap.size + 1 := fun v X => World.size_alloc _ _
  have h1 := heap_alloc_new w A
  have h2 := heap_alloc_new (w.alloc A) B
  have h3 := heap_alloc_new ((w.alloc A).alloc B) C
  have h4 := heap_alloc_new (((w.alloc A).alloc B).alloc C) D
  simp only [hs] at h2 h3 h4
  have y3 := x1 (((w.alloc A).alloc B).alloc C) D
  have y2 := (x1 ((w.alloc A).alloc B) C).trans y3
  have y1 := (x1 (w.alloc A) B).trans y2
  exact ⟨y1.heap h1, y2.heap h2, y3.heap h3, h4, (x1 w A).trans y1⟩
/-- What holds while the document's planes are cleared. -/
structure ClI (G : Nat → Prop) (w : World) (r : Nat) (s : St) (color : V4) (Pc : Pl) (wr : World) (v : Value) (L : List Bt) : Prop where
  dp : DpAt wr r Pc v
  d : DAt G wr v Pc L
  st : StAt wr (r + 1) s
  co : VAt wr (r + 1 + 1) color
  z : wr.heap[r + 1 + 1 + 1]? = some (.cells #[.int .i64 0, .int .i64 0, .int .i64 0, .bool false, .bool false, .slice none 0 0] 76 (0, 0))
  x : Ext w wr
theorem ClI.ext {G : Nat → Prop} {w : World} {r : Nat} {s : St} {color : V4} {Pc : Pl} {wr wq : World} {v : Value} {L : List Bt} (h : ClI G w r s color Pc wr v L) (x : Ext wr wq) : ClI G w r s color Pc wq v L :=
  ⟨x.heap h.dp, h.d.ext x, x.heap h.st, h.co.ext x, x.heap h.z, h.x.trans x⟩
theorem layV_sten (P : Pl) (i : Nat) (c : Ce) : layV P i c = layV P i { c with sten := c.sten % 256 } := by
  unfold layV
  rw [show ({ c with sten := c.sten % 256 } : Ce).sten % 256 = c.sten % 256 from Int.emod_emod_of_dvd _ (Int.dvd_refl _)]
theorem wm_bd {s : St} (h : stOk s = true) : 0 ≤ s.f.write ∧ s.f.write < 256 := by
  unfold stOk at h
  simp only [Bool.and_eq_true, List.all_cons, List.all_nil, Bool.and_true] at h
  have h1 := h.1.2.1
  unfold stenOk at h1
  simp only [Bool.and_eq_true, List.all_cons, List.all_nil, Bool.and_true] at h1
  have h2 := h1.1.2.2.2
  unfold inV at h2
  simp only [Bool.and_eq_true, decide_eq_true_eq] at h2
  omega
theorem bitV_01 (n : Int) (k : Nat) : 0 ≤ bitV n k ∧ bitV n k ≤ 1 := by unfold bitV; omega
theorem mixA_bd2 (c wm sten : Int) (hc : 0 ≤ c ∧ c < 256) (hw : 0 ≤ wm ∧ wm < 256) (j : Nat) (hj : j < 8) : 0 ≤ mixA c sten wm (j + 1) ∧ mixA c sten wm (j + 1) < 128 := by
  have h := mixA_bd c wm sten hc hw
  unfold mixA
  generalize mixS c sten wm = m at *
  have h7 : j = 0 ∨ j = 1 ∨ j = 2 ∨ j = 3 ∨ j = 4 ∨ j = 5 ∨ j = 6 ∨ j = 7 := by omega
  rcases h7 with rfl | rfl | rfl | rfl | rfl | rfl | rfl | rfl <;> simp only [Nat.reducePow, Int.reducePow, Nat.reduceAdd] <;> omega
section
attribute [local go_sem ↓] Ld_Bt St_Bt Ld_Ce St_Ce Ld_V4 Ld_Dp St_Dp Ld_St Ld_Fr2 St_V4
set_option maxHeartbeats 1600000 in
theorem dclear_any (G : Nat → Prop) (P : Pl) (v : Value) (L : List Bt) (s : St) (what : Nat) (color : V4) (dep sten : Int) (hs : stOk s = true) (hw : what ≤ 7) (w : World) (h : DAt G w v P L) (hG : ∀ k, w.heap.size ≤ k → G k) : Calls Try.prog 35 #[.agg (P.D v).toArray, .agg s.C.toArray, .int .i64 what, .agg color.C.toArray, .int .i32 dep, .int .i64 sten] w fun e w' => ∃ v' L', e = .returned (.agg ((clrV s what color dep sten P).D v').toArray) ∧ DAt G w' v' (clrV s what color dep sten P) L' ∧ Ext w w' := by
  have HINS := Lib.hid (fun i fr n w => dinside_any i fr n w)
  have HCLA := Lib.hid (fun x w => dclamp_any x w)
  have hP2 := h.ok.w2
  have hP3 := h.ok.h2
  obtain ⟨r, hr⟩ : ∃ r, w.heap.size = r := ⟨_, rfl⟩
  have HD0 : Hid (DAt (fun k => G k ∧ (k < r ∨ r + 1 + 1 + 1 < k)) w v P L) := Lib.hid (h.mono (fun k hk hg => ⟨hg, by omega⟩))
  have HG0 : Hid (∀ k, r + 1 + 1 + 1 < k → (G k ∧ (k < r ∨ r + 1 + 1 + 1 < k))) := Lib.hid (fun k hk => ⟨hG k (by omega), .inr hk⟩)
  have HNG : Hid (∀ k, r ≤ k → k ≤ r + 1 + 1 + 1 → ¬ (G k ∧ (k < r ∨ r + 1 + 1 + 1 < k))) := Lib.hid (fun k h1 h2 h3 => by omega)
  have HGG : Hid (∀ k, (G k ∧ (k < r ∨ r + 1 + 1 + 1 < k)) → G k) := Lib.hid (fun k h => h.1)
  obtain ⟨G', hG'⟩ : ∃ G' : Nat → Prop, (fun k => G k ∧ (k < r ∨ r + 1 + 1 + 1 < k)) = G' := ⟨_, rfl⟩
  rw [hG'] at HD0
  have HG1 : Hid (∀ k, r + 1 + 1 + 1 < k → G' k) := Lib.hid (by rw [← hG']; exact HG0.out)
  have HNG1 : Hid (∀ k, r ≤ k → k ≤ r + 1 + 1 + 1 → ¬ G' k) := Lib.hid (by rw [← hG']; exact HNG.out)
  have HGG1 : Hid (∀ k, G' k → G k) := Lib.hid (by rw [← hG']; exact HGG.out)
  clear HG0 HNG HGG hG' hG
  obtain ⟨w4, hw4, h4a, h4b, h4c, h4d, hx4⟩ : ∃ w4, (((w.alloc (.cells (P.D v).toArray 76)).alloc (.cells s.C.toArray 42)).alloc (.cells color.C.toArray 26)).alloc (.cells #[.int .i64 0, .int .i64 0, .int .i64 0, .bool false, .bool false, .slice none 0 0] 76) = w4 ∧ w4.heap[w.heap.size]? = some (.cells (P.D v).toArray 76 (0, 0)) ∧ w4.heap[w.heap.size + 1]? = some (.cells s.C.toArray 42 (0, 0)) ∧ w4.heap[w.heap.size + 1 + 1]? = some (.cells color.C.toArray 26 (0, 0)) ∧ w4.heap[w.heap.size + 1 + 1 + 1]? = some (.cells #[.int .i64 0, .int .i64 0, .int .i64 0, .bool false, .bool false, .slice none 0 0] 76 (0, 0)) ∧ Ext w w4 :=
    ⟨_, rfl, heap_4 w _ _ _ _⟩
  rw [hr] at h4a h4b h4c h4d
  have HI4 : Hid (ClI G' w r s color P w4 v L) := Lib.hid ⟨h4a, HD0.out.ext hx4, h4b, h4c, h4d, hx4⟩
  have HW4 := Lib.hid hw4
  have HR := Lib.hid hr
  have HSO := Lib.hid (wm_bd hs)
  have HWH := Lib.hid hw
  have HPOK := Lib.hid h.ok
  clear hw4 h4a h4b h4c h4d hx4 hs h hr
  go_enter Try.func35, Try.ntmps35
  go_upto_region 1 with fail
  rw [HW4.out, HR.out]
  go_wp2_with fail
  go_loopw [13] (fun i wr => ∃ (y : Nat) (v : Value) (L : List Bt), y ≤ P.H ∧ i = .int .i64 y ∧ Hid (ClI G' w r s color (ckP s what color dep sten P y 0) wr v L)) (fun i _ => P.H - (intOf i).toNat)
  case atStart => exact ⟨0, v, L, Nat.zero_le _, rfl, HI4⟩
  case round =>
    rename World => wr
    obtain ⟨y, v, L, hy, rfl, HR1⟩ := hrel
    have c1 : wr.cell? ⟨r, 1, none⟩ = some (.int .i64 P.H) := by rw [← (ck_dim s what color dep sten P y 0).2]; exact cell_of_heap HR1.out.dp rfl
    have n1 := heap_lt HR1.out.dp
    by_cases hlt : y < P.H
    · have hyi : (y : Int) < (P.H : Int) := by omega
      go_wp2_with fail
      go_loopw [14] (fun i wq => ∃ (x : Nat) (v : Value) (L : List Bt), x ≤ P.W ∧ i = .int .i64 x ∧ Hid (ClI G' w r s color (ckP s what color dep sten P y x) wq v L)) (fun i _ => P.W - (intOf i).toNat)
      case atStart => exact ⟨0, v, L, Nat.zero_le _, rfl, HR1⟩
      case round =>
        rename World => wq
        clear c1 n1 HR1 v L
        obtain ⟨x, v, L, hx, rfl, HR2⟩ := hrel
        have c0 : wq.cell? ⟨r, 0, none⟩ = some (.int .i64 P.W) := by rw [← (ck_dim s what color dep sten P y x).1]; exact cell_of_heap HR2.out.dp rfl
        have n1 := heap_lt HR2.out.dp
        by_cases hltx : x < P.W
        · have hxi : (x : Int) < (P.W : Int) := by omega
          have g0 : wq.cell? ⟨r + 1, 0, none⟩ = some (.bool s.sc) := cell_of_heap HR2.out.st rfl
          have g1 : wq.cell? ⟨r + 1, 1, none⟩ = some (.int .i64 s.x) := cell_of_heap HR2.out.st rfl
          have g2 : wq.cell? ⟨r + 1, 2, none⟩ = some (.int .i64 s.y) := cell_of_heap HR2.out.st rfl
          have g3 : wq.cell? ⟨r + 1, 3, none⟩ = some (.int .i64 s.w) := cell_of_heap HR2.out.st rfl
          have g4 : wq.cell? ⟨r + 1, 4, none⟩ = some (.int .i64 s.h) := cell_of_heap HR2.out.st rfl
          have n2 := heap_lt HR2.out.st
          have HA := Lib.hid (fun w => HINS.out x s.x s.w w)
          have HB := Lib.hid (fun w => HINS.out y s.y s.h w)
          have HIX : Hid (inX (clrX s P) x y = (!(s.sc && !(wiV x s.x s.w && wiV y s.y s.h)))) := Lib.hid (by
            unfold clrX
            cases s.sc
            · exact in_all hltx hlt hP2 hP3
            · rw [if_pos rfl]
              unfold inX
              simp)
          obtain ⟨b1, hb1⟩ : ∃ b1, wiV x s.x s.w = b1 := ⟨_, rfl⟩
          obtain ⟨b2, hb2⟩ : ∃ b2, wiV y s.y s.h = b2 := ⟨_, rfl⟩
          obtain ⟨b0, hb0⟩ : ∃ b0, s.sc = b0 := ⟨_, rfl⟩
          rw [hb1] at HA HIX
          rw [hb2] at HB HIX
          rw [hb0] at HIX g0
          clear hb0 hb1 hb2
          obtain ⟨bx, hbx⟩ : ∃ bx, inX (clrX s P) x y = bx := ⟨_, rfl⟩
          rw [hbx] at HIX
          have HBX := Lib.hid hbx
          clear hbx
          go_upto_region 7 with fail
          go_cut [53] from 31 to 53 (fun t wc => t = .bool (!bx) ∧ wq = wc)
          case first =>
            cases b0
            · go_wp2_with fail
              go_meet
              exact ⟨by rw [HIX.out]; rfl, rfl⟩
            · cases b1
              · go_wp2_with (go_at_call 75; refine (HA.out _).mono ?_; rintro _ _ ⟨rfl, rfl⟩)
                go_meet
                exact ⟨by rw [HIX.out]; rfl, rfl⟩
              · cases b2
                all_goals
                  go_wp2_with (first | (go_at_call_of 75 x; refine (HA.out _).mono ?_; rintro _ _ ⟨rfl, rfl⟩) | (go_at_call 75; refine (HB.out _).mono ?_; rintro _ _ ⟨rfl, rfl⟩))
                  go_meet
                  exact ⟨by rw [HIX.out]; rfl, rfl⟩
          case rest =>
            obtain ⟨rfl, rfl⟩ := hcut
            clear g0 g1 g2 g3 g4 HA HB HIX
            cases bx
            · go_wp2_with fail
              go_roundw
              case rel => exact ⟨x + 1, v, L, by omega, by go_num, by rw [ck_no HBX.out]; exact HR2⟩
              case measure => simp [intOf]; omega
            · have HYES := Lib.hid (ck_yes HBX.out what color dep sten)
              obtain ⟨dW, dH⟩ := ck_dim s what color dep sten P y x
              obtain ⟨Pc, hPc⟩ : ∃ Pc, ckP s what color dep sten P y x = Pc := ⟨_, rfl⟩
              rw [hPc] at HYES dW dH HR2
              have HCE := Lib.hid (dcell_any G' Pc v L x y (by omega) (by omega) wq HR2.out.d)
              have hin := place_lt hltx hlt
              rw [← dW, ← dH] at hin
              obtain ⟨i, hi⟩ : ∃ i, y * P.W + x = i := ⟨_, rfl⟩
              rw [dW, hi] at HCE
              rw [dW, hi] at hin
              rw [hi] at HYES
              have HCI := Lib.hid (cellV_in HR2.out.d.ok (show i < Pc.W * Pc.H by rw [dW]; exact hin))
              obtain ⟨ce, hce⟩ : ∃ ce, cellV Pc i = ce := ⟨_, rfl⟩
              rw [hce] at HCE HYES HCI
              have HDI := Lib.hid (And.intro (And.intro dW dH) (And.intro hi hPc))
              have lp := DpAt.load HR2.out.dp
              clear dW dH hPc hin hi hce
              go_upto_region 9 with (go_at_call 74; refine HCE.out.mono ?_; rintro _ w5 ⟨rfl, hx5⟩; obtain ⟨w6, hst6, h6, hx6⟩ := newCz w5 ce)
              obtain ⟨bc, hbc⟩ : ∃ bc, w5.heap.size = bc := ⟨_, rfl⟩
              rw [hbc] at h6
              rw [hbc]
              have HI6 := Lib.hid (HR2.out.ext (hx5.trans hx6))
              have HD6 : Hid (DAt (fun k => G' k ∧ k ≠ bc) w6 v Pc L) := Lib.hid (((HR2.out.d.ext hx5).mono (fun k hk hg => ⟨hg, by omega⟩)).ext hx6)
              have H6 := Lib.hid h6
              have HBC : Hid (r + 1 + 1 + 1 < bc ∧ w.heap.size ≤ bc) := Lib.hid (by have h1 := heap_lt HR2.out.z; have h2 := hx5.size; have h3 := HR2.out.x.size; omega)
              clear hx5 hx6 h6 hst6 hbc lp
              obtain ⟨on, hon⟩ : ∃ on : Bool, decide (what % 2 = 1) = on := ⟨_, rfl⟩
              have HON := Lib.hid hon
              clear hon
              go_wp2_with fail
              go_loopw [16] (fun i wt => ∃ m : Nat, m ≤ 4 ∧ i = .int .i64 m ∧ Hid (CAt wt bc (if on then pkS s color.cl ce m else ce) ∧ Chg [bc] w6 wt)) (fun i _ => 4 - (intOf i).toNat)
              case atStart => exact ⟨0, Nat.zero_le _, rfl, Lib.hid ⟨by split <;> exact H6.out, Chg.refl _ _⟩⟩
              case round =>
                rename World => wt
                obtain ⟨m, hm, rfl, HM⟩ := hrel
                by_cases hlm : m < 4
                · have hmi : (m : Int) < 4 := by omega
                  have h4 : m = 0 ∨ m = 1 ∨ m = 2 ∨ m = 3 := by omega
                  have HWT := Lib.hid (HI6.out.st.chg HM.out.2 (by have := HBC.out; simp; omega))
                  have HWC := Lib.hid (HI6.out.co.chg HM.out.2 (by have := HBC.out; simp; omega))
                  have n3 := heap_lt HM.out.1
                  have n4 := heap_lt HWT.out
                  have n5 := heap_lt HWC.out
                  rcases h4 with rfl | rfl | rfl | rfl
                  · have k1 : wt.cell? ⟨r + 1, 34, none⟩ = some (.bool s.m0) := cell_of_heap HWT.out rfl
                    have k2 : wt.cell? ⟨r + 1 + 1, 0, none⟩ = some (.int .i32 color.a) := cell_of_heap HWC.out rfl
                    have k4 : wt.frozen? ⟨bc, 0, none⟩ = false := free_of_heap HM.out.1
                    obtain ⟨mk, hmk⟩ : ∃ mk, s.m0 = mk := ⟨_, rfl⟩
                    rw [hmk] at k1
                    have HMK := Lib.hid hmk
                    clear hmk
                    obtain ⟨dd, hdd⟩ : ∃ dd, clV color.a = dd := ⟨_, rfl⟩
                    have HDD := Lib.hid hdd
                    have HCL1 := Lib.hid (fun w => HCLA.out color.a w)
                    rw [hdd] at HCL1
                    clear hdd
                    by_cases hw1 : what % 2 = 1
                    · obtain rfl : on = true := by rw [← HON.out]; exact decide_eq_true hw1
                      have hwi : (what : Int) % 2 = 1 := by omega
                      have k3 : wt.cell? ⟨bc, 0, none⟩ = some (.int .i32 ce.v.a) := by have := HM.out.1; exact cell_of_heap this rfl
                      cases mk
                      · have H9 : Hid (CAt wt bc (if true = true then pkS s color.cl ce 1 else ce)) := Lib.hid (by have h5 := HM.out.1; simp only [pkS, pickV, if_true, HMK.out] at h5 ⊢; exact h5)
                        go_wp2_with fail
                        go_roundw
                        case rel => exact ⟨1, by omega, rfl, Lib.hid ⟨H9.out, HM.out.2⟩⟩
                        case measure => simp [intOf]
                      · have H9 : Hid (CAt (wt.setCell ⟨bc, 0, none⟩ (.int .i32 dd)) bc (if true = true then pkS s color.cl ce 1 else ce)) := Lib.hid (by have h5 := CAt.set0 HM.out.1 dd; simp only [pkS, pickV, if_true, HMK.out, V4.cl, HDD.out] at h5 ⊢; exact h5)
                        have HC9 := Lib.hid (HM.out.2.setCell (p := ⟨bc, 0, none⟩) (by simp) (.int .i32 dd))
                        go_wp2_with (go_at_call 76; refine (HCL1.out _).mono ?_; rintro _ _ ⟨rfl, rfl⟩)
                        go_roundw
                        case rel => exact ⟨1, by omega, rfl, Lib.hid ⟨H9.out, HC9.out⟩⟩
                        case measure => simp [intOf]
                    · obtain rfl : on = false := by rw [← HON.out]; exact decide_eq_false hw1
                      have hwi : ¬ (what : Int) % 2 = 1 := by omega
                      go_wp2_with fail
                      go_roundw
                      case rel => exact ⟨1, by omega, rfl, HM⟩
                      case measure => simp [intOf]
                  · have k1 : wt.cell? ⟨r + 1, 35, none⟩ = some (.bool s.m1) := cell_of_heap HWT.out rfl
                    have k2 : wt.cell? ⟨r + 1 + 1, 1, none⟩ = some (.int .i32 color.b) := cell_of_heap HWC.out rfl
                    have k4 : wt.frozen? ⟨bc, 1, none⟩ = false := free_of_heap HM.out.1
                    obtain ⟨mk, hmk⟩ : ∃ mk, s.m1 = mk := ⟨_, rfl⟩
                    rw [hmk] at k1
                    have HMK := Lib.hid hmk
                    clear hmk
                    obtain ⟨dd, hdd⟩ : ∃ dd, clV color.b = dd := ⟨_, rfl⟩
                    have HDD := Lib.hid hdd
                    have HCL1 := Lib.hid (fun w => HCLA.out color.b w)
                    rw [hdd] at HCL1
                    clear hdd
                    by_cases hw1 : what % 2 = 1
                    · obtain rfl : on = true := by rw [← HON.out]; exact decide_eq_true hw1
                      have hwi : (what : Int) % 2 = 1 := by omega
                      have k3 : wt.cell? ⟨bc, 1, none⟩ = some (.int .i32 ce.v.b) := by have := HM.out.1; exact cell_of_heap this rfl
                      cases mk
                      · have H9 : Hid (CAt wt bc (if true = true then pkS s color.cl ce 2 else ce)) := Lib.hid (by have h5 := HM.out.1; simp only [pkS, pickV, if_true, HMK.out] at h5 ⊢; exact h5)
                        go_wp2_with fail
                        go_roundw
                        case rel => exact ⟨2, by omega, rfl, Lib.hid ⟨H9.out, HM.out.2⟩⟩
                        case measure => simp [intOf]
                      · have H9 : Hid (CAt (wt.setCell ⟨bc, 1, none⟩ (.int .i32 dd)) bc (if true = true then pkS s color.cl ce 2 else ce)) := Lib.hid (by have h5 := CAt.set1 HM.out.1 dd; simp only [pkS, pickV, if_true, HMK.out, V4.cl, HDD.out] at h5 ⊢; exact h5)
                        have HC9 := Lib.hid (HM.out.2.setCell (p := ⟨bc, 1, none⟩) (by simp) (.int .i32 dd))
                        go_wp2_with (go_at_call 76; refine (HCL1.out _).mono ?_; rintro _ _ ⟨rfl, rfl⟩)
                        go_roundw
                        case rel => exact ⟨2, by omega, rfl, Lib.hid ⟨H9.out, HC9.out⟩⟩
                        case measure => simp [intOf]
                    · obtain rfl : on = false := by rw [← HON.out]; exact decide_eq_false hw1
                      have hwi : ¬ (what : Int) % 2 = 1 := by omega
                      go_wp2_with fail
                      go_roundw
                      case rel => exact ⟨2, by omega, rfl, HM⟩
                      case measure => simp [intOf]
                  · have k1 : wt.cell? ⟨r + 1, 36, none⟩ = some (.bool s.m2) := cell_of_heap HWT.out rfl
                    have k2 : wt.cell? ⟨r + 1 + 1, 2, none⟩ = some (.int .i32 color.c) := cell_of_heap HWC.out rfl
                    have k4 : wt.frozen? ⟨bc, 2, none⟩ = false := free_of_heap HM.out.1
                    obtain ⟨mk, hmk⟩ : ∃ mk, s.m2 = mk := ⟨_, rfl⟩
                    rw [hmk] at k1
                    have HMK := Lib.hid hmk
                    clear hmk
                    obtain ⟨dd, hdd⟩ : ∃ dd, clV color.c = dd := ⟨_, rfl⟩
                    have HDD := Lib.hid hdd
                    have HCL1 := Lib.hid (fun w => HCLA.out color.c w)
                    rw [hdd] at HCL1
                    clear hdd
                    by_cases hw1 : what % 2 = 1
                    · obtain rfl : on = true := by rw [← HON.out]; exact decide_eq_true hw1
                      have hwi : (what : Int) % 2 = 1 := by omega
                      have k3 : wt.cell? ⟨bc, 2, none⟩ = some (.int .i32 ce.v.c) := by have := HM.out.1; exact cell_of_heap this rfl
                      cases mk
                      · have H9 : Hid (CAt wt bc (if true = true then pkS s color.cl ce 3 else ce)) := Lib.hid (by have h5 := HM.out.1; simp only [pkS, pickV, if_true, HMK.out] at h5 ⊢; exact h5)
                        go_wp2_with fail
                        go_roundw
                        case rel => exact ⟨3, by omega, rfl, Lib.hid ⟨H9.out, HM.out.2⟩⟩
                        case measure => simp [intOf]
                      · have H9 : Hid (CAt (wt.setCell ⟨bc, 2, none⟩ (.int .i32 dd)) bc (if true = true then pkS s color.cl ce 3 else ce)) := Lib.hid (by have h5 := CAt.set2 HM.out.1 dd; simp only [pkS, pickV, if_true, HMK.out, V4.cl, HDD.out] at h5 ⊢; exact h5)
                        have HC9 := Lib.hid (HM.out.2.setCell (p := ⟨bc, 2, none⟩) (by simp) (.int .i32 dd))
                        go_wp2_with (go_at_call 76; refine (HCL1.out _).mono ?_; rintro _ _ ⟨rfl, rfl⟩)
                        go_roundw
                        case rel => exact ⟨3, by omega, rfl, Lib.hid ⟨H9.out, HC9.out⟩⟩
                        case measure => simp [intOf]
                    · obtain rfl : on = false := by rw [← HON.out]; exact decide_eq_false hw1
                      have hwi : ¬ (what : Int) % 2 = 1 := by omega
                      go_wp2_with fail
                      go_roundw
                      case rel => exact ⟨3, by omega, rfl, HM⟩
                      case measure => simp [intOf]
                  · have k1 : wt.cell? ⟨r + 1, 37, none⟩ = some (.bool s.m3) := cell_of_heap HWT.out rfl
                    have k2 : wt.cell? ⟨r + 1 + 1, 3, none⟩ = some (.int .i32 color.d) := cell_of_heap HWC.out rfl
                    have k4 : wt.frozen? ⟨bc, 3, none⟩ = false := free_of_heap HM.out.1
                    obtain ⟨mk, hmk⟩ : ∃ mk, s.m3 = mk := ⟨_, rfl⟩
                    rw [hmk] at k1
                    have HMK := Lib.hid hmk
                    clear hmk
                    obtain ⟨dd, hdd⟩ : ∃ dd, clV color.d = dd := ⟨_, rfl⟩
                    have HDD := Lib.hid hdd
                    have HCL1 := Lib.hid (fun w => HCLA.out color.d w)
                    rw [hdd] at HCL1
                    clear hdd
                    by_cases hw1 : what % 2 = 1
                    · obtain rfl : on = true := by rw [← HON.out]; exact decide_eq_true hw1
                      have hwi : (what : Int) % 2 = 1 := by omega
                      have k3 : wt.cell? ⟨bc, 3, none⟩ = some (.int .i32 ce.v.d) := by have := HM.out.1; exact cell_of_heap this rfl
                      cases mk
                      · have H9 : Hid (CAt wt bc (if true = true then pkS s color.cl ce 4 else ce)) := Lib.hid (by have h5 := HM.out.1; simp only [pkS, pickV, if_true, HMK.out] at h5 ⊢; exact h5)
                        go_wp2_with fail
                        go_roundw
                        case rel => exact ⟨4, by omega, rfl, Lib.hid ⟨H9.out, HM.out.2⟩⟩
                        case measure => simp [intOf]
                      · have H9 : Hid (CAt (wt.setCell ⟨bc, 3, none⟩ (.int .i32 dd)) bc (if true = true then pkS s color.cl ce 4 else ce)) := Lib.hid (by have h5 := CAt.set3 HM.out.1 dd; simp only [pkS, pickV, if_true, HMK.out, V4.cl, HDD.out] at h5 ⊢; exact h5)
                        have HC9 := Lib.hid (HM.out.2.setCell (p := ⟨bc, 3, none⟩) (by simp) (.int .i32 dd))
                        go_wp2_with (go_at_call 76; refine (HCL1.out _).mono ?_; rintro _ _ ⟨rfl, rfl⟩)
                        go_roundw
                        case rel => exact ⟨4, by omega, rfl, Lib.hid ⟨H9.out, HC9.out⟩⟩
                        case measure => simp [intOf]
                    · obtain rfl : on = false := by rw [← HON.out]; exact decide_eq_false hw1
                      have hwi : ¬ (what : Int) % 2 = 1 := by omega
                      go_wp2_with fail
                      go_roundw
                      case rel => exact ⟨4, by omega, rfl, HM⟩
                      case measure => simp [intOf]
                · obtain rfl : m = 4 := by omega
                  obtain ⟨c4, hc4⟩ : ∃ c4 : Ce, (if on = true then pkS s color.cl ce 4 else ce) = c4 := ⟨_, rfl⟩
                  have H4v : Hid (c4 = ⟨(if what % 2 = 1 then (⟨if s.m0 then color.cl.a else ce.v.a, if s.m1 then color.cl.b else ce.v.b, if s.m2 then color.cl.c else ce.v.c, if s.m3 then color.cl.d else ce.v.d⟩ : V4) else ce.v), ce.dep, ce.sten⟩) := Lib.hid (by
                    rw [← hc4, ← HON.out]
                    by_cases hw1 : what % 2 = 1
                    · rw [if_pos (decide_eq_true hw1), if_pos hw1]; rfl
                    · rw [if_neg (by simpa using hw1), if_neg hw1])
                  rw [hc4] at HM
                  clear hc4 hlm hm HON
                  have HWT := Lib.hid (HI6.out.st.chg HM.out.2 (by have := HBC.out; simp; omega))
                  have q1 : wt.cell? ⟨r + 1, 21, none⟩ = some (.bool s.dw) := cell_of_heap HWT.out rfl
                  have q4 : wt.frozen? ⟨bc, 4, none⟩ = false := free_of_heap HM.out.1
                  have q5 : wt.cell? ⟨bc, 4, none⟩ = some (.int .i32 c4.dep) := cell_of_heap HM.out.1 rfl
                  have n3 := heap_lt HM.out.1
                  have n4 := heap_lt HWT.out
                  obtain ⟨dw, hdw⟩ : ∃ dw, s.dw = dw := ⟨_, rfl⟩
                  rw [hdw] at q1
                  have HDW := Lib.hid hdw
                  obtain ⟨dd, hdd⟩ : ∃ dd, clV dep = dd := ⟨_, rfl⟩
                  have HDD := Lib.hid hdd
                  have HCL1 := Lib.hid (fun w => HCLA.out dep w)
                  rw [hdd] at HCL1
                  clear hdd hdw
                  go_upto_region 14 with fail
                  go_cut [85] from 78 to 85 (fun t wc => t = .bool (decide (what / 2 % 2 = 1) && dw) ∧ wt = wc)
                  case first =>
                    by_cases hw2 : what / 2 % 2 = 1
                    · have hwi : (what : Int) / 2 % 2 = 1 := by omega
                      go_wp2_with fail
                      go_meet
                      exact ⟨by simp [hw2], rfl⟩
                    · have hwi : ¬ (what : Int) / 2 % 2 = 1 := by omega
                      go_wp2_with fail
                      go_meet
                      exact ⟨by simp [hw2], rfl⟩
                  obtain ⟨rfl, rfl⟩ := hcut
                  obtain ⟨bq, hbq⟩ : ∃ bq, (decide (what / 2 % 2 = 1) && dw) = bq := ⟨_, rfl⟩
                  rw [hbq]
                  have HBQ : Hid ((if what / 2 % 2 = 1 ∧ s.dw = true then dd else c4.dep) = if bq then dd else c4.dep) := Lib.hid (by
                    rw [← hbq, HDW.out]
                    by_cases hw2 : what / 2 % 2 = 1 <;> cases dw <;> simp [hw2])
                  clear hbq
                  go_upto_if 85 with fail
                  go_cut [] from 86 to 88 (fun wc => Hid (CAt wc bc { c4 with dep := if what / 2 % 2 = 1 ∧ s.dw = true then dd else c4.dep } ∧ Chg [bc] w6 wc))
                  case first =>
                    cases bq
                    · go_wp2_with fail
                      go_meet
                      exact Lib.hid ⟨by rw [HBQ.out]; exact HM.out.1, HM.out.2⟩
                    · have HQ := Lib.hid (CAt.set4 HM.out.1 dd)
                      have HCQ := Lib.hid (HM.out.2.setCell (p := ⟨bc, 4, none⟩) (by simp) (.int .i32 dd))
                      go_wp2_with (go_at_call 76; refine (HCL1.out _).mono ?_; rintro _ _ ⟨rfl, rfl⟩)
                      go_meet
                      exact Lib.hid ⟨by rw [HBQ.out]; exact HQ.out, HCQ.out⟩
                  case rest =>
                    rename World => wu
                    obtain ⟨c5, hc5⟩ : ∃ c5 : Ce, { c4 with dep := if what / 2 % 2 = 1 ∧ s.dw = true then dd else c4.dep } = c5 := ⟨_, rfl⟩
                    rw [hc5] at hcut
                    have H5v : Hid (c5 = { c4 with dep := if what / 2 % 2 = 1 ∧ s.dw = true then dd else c4.dep }) := Lib.hid hc5.symm
                    have HU := hcut
                    clear hcut hc5 q1 q4 q5 n3 n4 HWT HM HCL1
                    have HWT := Lib.hid (HI6.out.st.chg HU.out.2 (by have := HBC.out; simp; omega))
                    have q1 : wu.cell? ⟨r + 1, 9, none⟩ = some (.int .i64 s.f.write) := cell_of_heap HWT.out rfl
                    have q4 : wu.frozen? ⟨bc, 5, none⟩ = false := free_of_heap HU.out.1
                    have q5 : wu.cell? ⟨bc, 5, none⟩ = some (.int .i64 c5.sten) := cell_of_heap HU.out.1 rfl
                    have n3 := heap_lt HU.out.1
                    have n4 := heap_lt HWT.out
                    have HSTE : Hid (c5.sten = ce.sten) := Lib.hid (by rw [H5v.out, H4v.out])
                    obtain ⟨wm, hwm⟩ : ∃ wm, s.f.write = wm := ⟨_, rfl⟩
                    rw [hwm] at q1 HSO
                    rw [HSTE.out] at q5
                    obtain ⟨cs, hcs⟩ : ∃ cs, ce.sten = cs := ⟨_, rfl⟩
                    rw [hcs] at q5
                    have HCS := Lib.hid (show 0 ≤ cs ∧ cs < 256 by rw [← hcs]; exact HCI.out.2)
                    have HWM := Lib.hid (And.intro hwm hcs)
                    clear hwm hcs
                    go_upto_region 16 with fail
                    go_cut [91] from 89 to 91 (fun t wc => t = .bool (decide (what / 4 % 2 = 1)) ∧ wu = wc)
                    case first =>
                      by_cases hw4 : what / 4 % 2 = 1
                      · have hwi : (what : Int) / 4 = 1 := by have := HWH.out; omega
                        go_wp2_with fail
                        go_meet
                        exact ⟨by simp [hw4], rfl⟩
                      · have hwi : ¬ (what : Int) / 4 = 1 := by have := HWH.out; omega
                        go_wp2_with fail
                        go_meet
                        exact ⟨by simp [hw4, hwi], rfl⟩
                    obtain ⟨rfl, rfl⟩ := hcut
                    obtain ⟨bq, hbq⟩ : ∃ bq, decide (what / 4 % 2 = 1) = bq := ⟨_, rfl⟩
                    rw [hbq]
                    have HBQ4 : Hid ((if what / 4 % 2 = 1 then mixS cs sten wm else cs) = if bq then mixS cs sten wm else cs) := Lib.hid (by
                      rw [← hbq]
                      by_cases hw4 : what / 4 % 2 = 1 <;> simp [hw4])
                    clear hbq
                    go_upto_if 91 with fail
                    go_cut [17, 18] from 92 to 116 (fun _ _ wc => Hid (CAt wc bc { c5 with sten := if what / 4 % 2 = 1 then mixS cs sten wm else cs } ∧ Chg [bc] w6 wc))
                    case first =>
                      cases bq
                      · go_wp2_with fail
                        go_meet
                        exact Lib.hid ⟨by rw [HBQ4.out, if_neg (by decide), ← HWM.out.2, ← HSTE.out]; exact HU.out.1, HU.out.2⟩
                      · go_wp2_with fail
                        go_loopw [17, 18] (fun nn kk wv => ∃ j : Nat, j ≤ 8 ∧ kk = .int .i64 ((j : Int) - 1) ∧ nn = .int .i64 (mixA cs sten wm j) ∧ wu = wv) (fun _ kk _ => (intOf kk + 1).toNat)
                        case atStart => exact ⟨8, Nat.le_refl _, rfl, by rw [mixA_top cs wm sten HCS.out HSO.out], rfl⟩
                        case round =>
                          obtain ⟨j, hj, rfl, rfl, rfl⟩ := hrel
                          obtain ⟨kz, hkz⟩ : ∃ kz, ((j : Int) - 1) = kz := ⟨_, rfl⟩
                          rw [hkz]
                          rcases Nat.eq_zero_or_pos j with hj0 | hj0
                          · subst hj0
                            obtain rfl : kz = -1 := by rw [← hkz]; rfl
                            have HQ := Lib.hid (CAt.set5 HU.out.1 (mixA cs sten wm 0))
                            have HCQ := Lib.hid (HU.out.2.setCell (p := ⟨bc, 5, none⟩) (by simp) (.int .i64 (mixA cs sten wm 0)))
                            clear hkz hj
                            go_wp2_with fail
                            go_meet
                            exact Lib.hid ⟨by rw [HBQ4.out]; have h5 := HQ.out; rw [mixA_zero] at h5 ⊢; simp only [if_true]; exact h5, HCQ.out⟩
                          · obtain ⟨j, rfl⟩ : ∃ j', j = j' + 1 := ⟨j - 1, by omega⟩
                            obtain rfl : kz = (j : Int) := by omega
                            have hj8 : j < 8 := by omega
                            have HST := Lib.hid (mixA_step cs wm sten HCS.out HSO.out j hj8)
                            have hbd := mixA_bd2 cs wm sten HCS.out HSO.out j hj8
                            obtain ⟨nv, hnv⟩ : ∃ nv, mixA cs sten wm (j + 1) = nv := ⟨_, rfl⟩
                            rw [hnv] at HST hbd
                            rw [hnv]
                            have HB1 := Lib.hid (fun w => dbit_any wm j hj8 w)
                            have HB2 := Lib.hid (fun w => dbit_any sten j hj8 w)
                            have HB3 := Lib.hid (fun w => dbit_any cs j hj8 w)
                            have hb2 := bitV_01 sten j
                            have hb3 := bitV_01 cs j
                            have hb1 := bitV_01 wm j
                            obtain ⟨z1, hz1⟩ : ∃ z, bitV wm j = z := ⟨_, rfl⟩
                            obtain ⟨z2, hz2⟩ : ∃ z, bitV sten j = z := ⟨_, rfl⟩
                            obtain ⟨z3, hz3⟩ : ∃ z, bitV cs j = z := ⟨_, rfl⟩
                            rw [hz1] at HB1 HST hb1
                            rw [hz2] at HB2 HST hb2
                            rw [hz3] at HB3 HST hb3
                            have hw1 : IntKind.i64.wrap (2 * nv) = 2 * nv := IntWalk.i64_in _ (by omega)
                            have hw2 : IntKind.i64.wrap (2 * nv + z2) = 2 * nv + z2 := IntWalk.i64_in _ (by omega)
                            have hw3 : IntKind.i64.wrap (2 * nv + z3) = 2 * nv + z3 := IntWalk.i64_in _ (by omega)
                            have hw4 : (0 : Int) ≤ (j : Int) := by omega
                            clear hnv hz1 hz2 hz3 hkz hbd hb2 hb3
                            have hz : z1 = 1 ∨ z1 = 0 := by omega
                            clear hb1
                            rcases hz with rfl | rfl
                            · rw [if_pos rfl] at HST
                              go_wp2_with (first | (go_at_call_of 77 wm; refine (HB1.out _).mono ?_; rintro _ _ ⟨rfl, rfl⟩) | (go_at_call_of 77 sten; refine (HB2.out _).mono ?_; rintro _ _ ⟨rfl, rfl⟩))
                              go_roundw
                              case rel => exact ⟨j, by omega, by go_num, by rw [HST.out], by first | rfl | trivial⟩
                              case measure => simp [intOf] <;> omega
                            · rw [if_neg (by decide)] at HST
                              go_wp2_with (first | (go_at_call_of 77 wm; refine (HB1.out _).mono ?_; rintro _ _ ⟨rfl, rfl⟩) | (go_at_call_of 77 cs; refine (HB3.out _).mono ?_; rintro _ _ ⟨rfl, rfl⟩))
                              go_roundw
                              case rel => exact ⟨j, by omega, by go_num, by rw [HST.out], by first | rfl | trivial⟩
                              case measure => simp [intOf] <;> omega
                    case rest =>
                      rename World => wv
                      obtain ⟨c6, hc6⟩ : ∃ c6 : Ce, { c5 with sten := if what / 4 % 2 = 1 then mixS cs sten wm else cs } = c6 := ⟨_, rfl⟩
                      rw [hc6] at hcut
                      have HV := hcut
                      have HC6 : Hid (c6 = clrC s what color dep sten ce) := Lib.hid (by
                        rw [← hc6, H5v.out, H4v.out]
                        unfold clrC mixS
                        rw [HDD.out, HWM.out.1, HWM.out.2])
                      have HI6C : Hid (c6.In ∧ 0 ≤ c6.sten ∧ c6.sten ≤ 255) := Lib.hid (by
                        have hv := clr_in s what color ce HCI.out.1
                        have h1 := mixA_bd cs wm sten HCS.out HSO.out
                        have h2 := HCS.out
                        have h3 := clV_in dep
                        rw [HDD.out] at h3
                        have h4 := HCI.out.1.2
                        rw [← hc6, H5v.out, H4v.out]
                        refine ⟨⟨hv, ?_⟩, ?_⟩
                        · show _ ≤ (if what / 2 % 2 = 1 ∧ s.dw = true then dd else ce.dep) ∧ (if what / 2 % 2 = 1 ∧ s.dw = true then dd else ce.dep) ≤ _
                          split <;> omega
                        · show 0 ≤ (if what / 4 % 2 = 1 then mixS cs sten wm else cs) ∧ (if what / 4 % 2 = 1 then mixS cs sten wm else cs) ≤ 255
                          split <;> omega)
                      clear hcut hc6 q1 q4 q5 n3 n4 HWT HU HBQ4
                      have hdp := HV.out.2.heap HI6.out.dp (by have := HBC.out; simp; omega)
                      have lp := DpAt.load (show DpAt wv r Pc v from hdp)
                      have lc := CAt.load2 HV.out.1
                      have n3 := heap_lt HV.out.1
                      have n4 := heap_lt hdp
                      have HDP := Lib.hid (show DpAt wv r Pc v from hdp)
                      have HLA := Lib.hid (dlay_any (fun k => G' k ∧ k ≠ bc) Pc v L x y c6 (by have := HDI.out.1.1; omega) (by have := HDI.out.1.2; omega) HI6C.out.1 HI6C.out.2 wv (HD6.out.chg HV.out.2 (fun m hm hg => hg.2 (by simpa using hm))) (fun k hk => ⟨HG1.out k (by have := HBC.out; omega), by omega⟩))
                      rw [HDI.out.1.1, HDI.out.2.1, HC6.out] at HLA
                      rw [HC6.out] at lc
                      rw [← HYES.out] at HLA
                      clear hdp
                      have HLB : Hid (Calls Try.prog 33 #[.agg (Pc.D v).toArray, .int .i64 x, .int .i64 y, .agg (clrC s what color dep sten ce).C.toArray] wv fun e w' => ∃ v' L', e = .returned (.agg ((ckP s what color dep sten P y (x + 1)).D v').toArray) ∧ DAt (fun k => G' k ∧ k ≠ bc) w' v' (ckP s what color dep sten P y (x + 1)) L' ∧ Ext wv w') := HLA
                      obtain ⟨Pn, hPn⟩ : ∃ Pn, ckP s what color dep sten P y (x + 1) = Pn := ⟨_, rfl⟩
                      rw [hPn] at HLB
                      have HPN := Lib.hid hPn
                      obtain ⟨cx, hcx⟩ : ∃ cx, clrC s what color dep sten ce = cx := ⟨_, rfl⟩
                      rw [hcx] at HLB lc
                      clear HLA hPn hcx HYES HC6
                      go_wp2_with (go_at_call 33; refine HLB.out.mono ?_; rintro _ ww ⟨v', L', rfl, hd', hx'⟩; obtain ⟨wz, hst, hq, hc⟩ := dp_set (hx'.heap HDP.out) Pn hd'.one)
                      have HFIN : Hid (ClI G' w r s color Pn wz v' L') := Lib.hid ⟨hq, (hd'.mono (fun k _ hg => hg.1)).chg hc (by intro m hm; rw [List.mem_singleton.1 hm]; exact HNG1.out _ (by omega) (by omega)), hc.heap (hx'.heap (HV.out.2.heap HI6.out.st (by have := HBC.out; simp; omega))) (by simp), hc.heap (hx'.heap (HV.out.2.heap HI6.out.co (by have := HBC.out; simp; omega))) (by simp; omega), hc.heap (hx'.heap (HV.out.2.heap HI6.out.z (by have := HBC.out; simp; omega))) (by simp; omega), (((HI6.out.x.chgTrans HV.out.2 (by have := HBC.out; simp; omega)).trans hx').chgTrans hc (by have := HR.out; simp; omega))⟩
                      clear hd' hx' hq hc
                      go_roundw
                      case rel => exact ⟨x + 1, v', L', by omega, by go_num, by rw [HPN.out]; exact HFIN⟩
                      case measure => simp [intOf]; omega
        · obtain rfl : x = P.W := by omega
          have HR3 := HR2
          rw [ck_row] at HR3
          go_wp2_with fail
          go_roundw
          case rel => exact ⟨y + 1, v, L, by omega, by go_num, HR3⟩
          case measure => simp [intOf]; omega
    · obtain rfl : y = P.H := by omega
      have HR3 := HR1
      rw [ck_end] at HR3
      have lp := DpAt.load HR3.out.dp
      have n2 := heap_lt HR3.out.z
      obtain ⟨wz, hst, hq, hc⟩ := dp_put HR3.out.z (clrV s what color dep sten P) HR3.out.d.one
      have HQ := Lib.hid hq
      have HDZ := Lib.hid (HR3.out.d.chg hc (by intro m hm; rw [List.mem_singleton.1 hm]; exact HNG1.out _ (by omega) (by omega)))
      have HXZ := Lib.hid (HR3.out.x.chgTrans hc (by have := HR.out; simp; omega))
      clear hq hc
      go_wp2_with fail
      have hload := run_loadVar_whole (P := Try.prog) 76 _ HQ.out Try.underlying76 rfl (by kernel_rfl)
      refine bodyPost_ret (results_cell1 rfl _ _ _ _ rfl hload) rfl ?_
      exact ⟨v, L, rfl, HDZ.out.mono (fun k _ hk => HGG1.out k hk), HXZ.out⟩
end
end Go.Proofs.Ytgdcdkajicgliaa
