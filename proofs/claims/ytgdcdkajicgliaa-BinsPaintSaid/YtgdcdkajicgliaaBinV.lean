/- The walk of BinsPaint. Conditions: each theorem's own premises. -/
import Derived.Test.YtgdcdkajicgliaaPln
import Derived.Test.YtgdcdkajicgliaaRo
import Derived.Test.YtgdcdkajicgliaaAlk
import Derived.Test.YtgdcdkajicgliaaTld
import Derived.Laws.OwnMore
import Derived.Deep.RegionHeld3
namespace Go.Proofs.Ytgdcdkajicgliaa
open Go.RowKit
set_option linter.unusedVariables false
set_option maxRecDepth 100000
set_option linter.unusedSimpArgs false

theorem cell_intsV {W : World} {o : Value} (h : CellIs Try.prog W (.slice 3) o) : ∃ zs, Ints .i64 W o zs := by
  obtain ⟨css, h1, h2⟩ := h.elems 4 (ls := [.int .i64]) (by kernel_rfl) (by kernel_rfl) (by decide)
  have key : ∀ (css : List (List Value)), (∀ cs ∈ css, Fits (CellIs Try.prog W) [.int .i64] cs) → ∃ zs : List Int, css.flatten = zs.map (Value.int .i64) ∧ zs.length = css.length ∧ ∀ z ∈ zs, (Lit.int .i64 z).wf = true := fun css => by
    induction css with
    | nil => intro _; exact ⟨[], rfl, rfl, by simp⟩
    | cons c css ih =>
      intro hc
      obtain ⟨zs, g1, g2, g3⟩ := ih (fun cs hcs => hc cs (by simp [hcs]))
      obtain ⟨u0, us, rfl, ⟨z, rfl, hz⟩, k1⟩ := (hc c (by simp)).cons_inv
      have := k1.nil_inv
      subst this
      exact ⟨z :: zs, by rw [List.flatten_cons, g1]; rfl, by simp [g2], fun x hx => by
        rcases List.mem_cons.1 hx with rfl | hx
        · exact hz
        · exact g3 x hx⟩
  obtain ⟨zs, g1, g2, g3⟩ := key css h2
  refine ⟨zs, ?_, g3⟩
  rw [g1, ← g2] at h1
  exact h1
theorem wkCellV {w : World} {b : Nat} {W H : Int} {d : Bool} {s : St} {o : Value} (h : WkAt w b W H d s o) : w.cell? ⟨b, 41, none⟩ = some o := cell_of_heap h rfl
theorem info_intV : (Try.prog.info? 3).map (fun i => (i.zero, i.size, i.bytes)) = some (some (.int .i64 0), 1, 8) := by kernel_rfl
/-- The first numbers of a slice. -/
theorem Ints.first {k : IntKind} {w : World} {a : Option Addr} {n cap m : Nat} {zs : List Int} (h : Ints k w (.slice a n cap) zs) (hm : m ≤ zs.length) : Ints k w (.slice a m cap) (zs.take m) := by
  obtain ⟨h1, h2⟩ := h
  have hn : n = zs.length := by
    obtain ⟨_, a', cap', he, _⟩ := h1
    simp only [Value.slice.injEq] at he
    exact he.2.1
  subst hn
  have hl : (zs.take m).length = m := by rw [List.length_take]; omega
  refine ⟨?_, fun z hz => h2 z (List.mem_of_mem_take hz)⟩
  have := h1.pre hm
  rw [Nat.mul_one, ← List.map_take] at this
  rw [hl]
  exact this
/-- append to a row of one's own, whatever slice is appended: at a step of a region that draws its order. -/
theorem step_append_all {P : Program} {ops : Array Oper} {o : Oper} {a : Act} {w : World} {K : Act → World → Prop} {Q : Exit → Act → World → Prop} {E : Prop} (hgd : o.guard = none) (s x : Operand) (t : TypeId)
    (ho : o.op = .call { callee := .builtin .append, args := #[s, x], argTypes := #[t, t] })
    (base : Nat) (e : TypeId) (i : TypeInfo) (z : Value) (size bytes : Nat) (ht : P.underlying t = some (.slice e)) (hi : P.info? e = some i) (hz : i.zero = some z)
    (hsize : i.size = size) (hby : i.bytes = bytes) (hzs : z.cells.size = size) (hsz : 0 < size)
    (v : Value) (n : Nat) (xs : List Value) (hs : a.eval s = v) (hown : w.ownsRow base e size v n xs)
    (m : Nat) (u : Value) (news : List Value) (hx : a.eval x = u) (hu : SlC w u size m news) (h1 : ∀ u ∈ news, u.oneCell' = true)
    (h63 : n + m ≤ maxLen) (hbytes : (n + m) * bytes ≤ 140737488355328) (hbase : base ≤ w.heap.size)
    (h : ∀ v' w', w'.ownsRow base e size v' (n + m) (xs ++ news) → w.grownBy w' v.ownBlock → K (a.put o.dst v') w') : if Region.wanted o (yielded ops a.tmps) = true then Oper.wp P o a w K Q else E := by
  have hw : Region.wanted o (yielded ops a.tmps) = true := by simp [Region.wanted, hgd]
  rw [if_pos hw]
  obtain ⟨hlen, ad, cap, rfl, hn, hc, hz0, hp⟩ := hu
  cases ad with
  | none =>
    have hcap := hz0 rfl
    subst hcap
    obtain rfl : m = 0 := by omega
    have hnil : news = [] := List.eq_nil_of_length_eq_zero (by simpa using hlen)
    subst hnil
    have hrun := run_append_owned_none (P := P) (w := w) base t o.type e i size ht hi v n xs hown
    unfold Oper.wp
    simp [execOp, ho, resolve, invoke, builtin, hs, hx, hrun, Result.andThen]
    exact h v w (by simpa using hown) ⟨rfl, rfl, rfl, Nat.le_refl _, fun _ _ _ => rfl⟩
  | some d =>
    have hnews : ∀ j u, news[j]? = some u → w.cell? (d.add j) = some u := fun j y hj => by
      have hlt := (List.getElem?_eq_some_iff.1 hj).1
      have hm0 : 0 < m := by
        rcases Nat.eq_zero_or_pos m with h0 | h0
        · subst h0; rw [Nat.zero_mul] at hlen; omega
        · exact h0
      obtain ⟨b, off, hd, _, hcell⟩ := hp hm0
      simp only [Option.some.injEq] at hd
      subst hd
      rw [Addr.add_lit]
      exact hcell j y hj
    obtain ⟨v', w', hrun, r1, r2, _⟩ := run_append_own (P := P) w base t o.type e i z size bytes ht hi hz hsize hby hzs hsz v n xs hown d m cap news hlen hnews h1 h63 hbytes hbase
    unfold Oper.wp
    simp [execOp, ho, resolve, invoke, builtin, hs, hx, hrun, Result.andThen]
    exact h v' w' r1 r2
/-- What holds while strokes are painted one by one, from some planes on. -/
structure VInv (s : St) (B : Pb) (w2 wr : World) (a0 : Pl × Nat) (F : List Sk) (k : Nat) (a : Pl × Nat) : Prop where
  e : (F.take k).foldl (stepK s) a0 = a
  p : PlAt wr B a.1
  c : Chg [B.c, B.d, B.m] w2 wr
  l : a.2 ≤ a0.2 + k
/-- What holds while tiles are painted one by one. -/
structure UInv (s : St) (T : List (List Sk)) (zs : List Int) (B : Pb) (w2 wr : World) (P : Pl) (k : Nat) (a : Pl × Nat) : Prop where
  e : paintK s T (zs.take k) (P, 0) = a
  p : PlAt wr B a.1
  c : Chg [B.c, B.d, B.m] w2 wr
  l : a.2 ≤ 1000 * k
theorem paintK_nil (s : St) {T : List Tl} (a : Pl × Nat) : ∀ zs : List Int, paintK s (skel (T.map fun _ => ((.slice none 0 0, []) : Tl))) zs a = a
  | [] => rfl
  | z :: zs => by
    have h : tileK s (skel (T.map fun _ => ((.slice none 0 0, []) : Tl))) a z = a := by
      unfold tileK
      have : (skel (T.map fun _ => ((.slice none 0 0, []) : Tl))).getD z.toNat [] = [] := by
        unfold skel
        rw [List.map_map, List.getD_eq_getElem?_getD, List.getElem?_map]
        cases T[z.toNat]? <;> rfl
      rw [this]
      rfl
    show paintK s _ zs (tileK s _ a z) = a
    rw [h]
    exact paintK_nil s a zs
theorem tlL_nil (T : List Tl) (t : Int) : tlL (T.map fun _ => ((.slice none 0 0, []) : Tl)) t = [] := by
  unfold tlL
  split
  · rw [List.getD_eq_getElem?_getD, List.getElem?_map]
    cases T[t.toNat]? <;> rfl
  · rfl
section
attribute [local go_sem ↓] Ld_St Ld_Wk Ld_Sk St_Sk Ld_Fr2 Ld_V4
attribute [local go_sem] Oper.semAt_some
set_option maxHeartbeats 16000000 in
theorem bpaint_walk (W H : Int) (d : Bool) (s : St) (o v : Value) (L : List (Sk × Value)) (os : List Int) (w : World) (hL : SksAt w v L) (ho : Ints .i64 w o os) : Calls Try.prog 10 #[.agg (wkC W H d s o).toArray, v] w fun e w' => e = .returned (.bool true) ∧ Ext w w' := by
  have HL := Lib.hid hL
  have HO := Lib.hid ho
  obtain ⟨⟨_, ao, co, rfl, hoc, hom, _⟩, _⟩ := ho
  clear hL
  go_enter Try.func10, Try.ntmps10
  go_upto_region 1 with fail
  obtain ⟨w0, hw0, hwk, hx0⟩ : ∃ w0, w.alloc (.cells (wkC W H d s (.slice ao os.length co)).toArray 91) = w0 ∧ w0.heap[w.heap.size]? = some (.cells (wkC W H d s (.slice ao os.length co)).toArray 91 (0, 0)) ∧ Ext w w0 := ⟨_, rfl, heap_alloc_new _ _, (Ext.refl _).alloc _⟩
  rw [hw0]
  obtain ⟨b0, hb0⟩ : ∃ b0, w.heap.size = b0 := ⟨_, rfl⟩
  have HB0 := Lib.hid hb0
  rw [hb0] at hwk
  rw [hb0]
  have HX0 := Lib.hid hx0
  clear hw0 hx0 hb0
  go_upto_region 4 with (first | (go_at_call 39; refine (wakes_any _).mono ?_; rintro _ w1 ⟨rfl, hx1⟩) | (go_at_call 40; refine (few_any v L _ (HL.out.ext (HX0.out.trans hx1))).mono ?_; rintro _ w2 ⟨a1, c1, L1, rfl, hm1, he1, hx2⟩))
  obtain ⟨m1, hmw⟩ : ∃ m1, w1.heap.size = m1 := ⟨_, rfl⟩
  rw [hmw] at hm1
  have hb1 : w.heap.size ≤ m1 ∧ m1 ≤ w2.heap.size := by have := HX0.out.size; have := hx1.size; have := hx2.size; omega
  have HMW := Lib.hid hb1
  have HM1 := Lib.hid hm1
  have HE1 := Lib.hid he1
  have HWK := Lib.hid ((hx1.trans hx2).heap hwk)
  have HX2 := Lib.hid (HX0.out.trans (hx1.trans hx2))
  have n2 := heap_lt HWK.out
  clear hwk hx1 hx2 hm1 he1 HX0 hmw hb1
  have HK : Hid (∀ w', Ext w2 w' → (@Classical.epsilon _ neV (LdP 91 (.pointer (some ⟨b0, 0, none⟩)))).run Try.prog w' = .ok (.agg (wkC W H d s (.slice ao os.length co)).toArray) w') := Lib.hid fun w' x' => WkAt.load (x'.heap HWK.out)
  have X0 := Lib.hid (show Ext w2 w2.drew from (Ext.refl _).drew)
  go_region_held3 (fun w' => (@Classical.epsilon _ neV (LdP 91 (.pointer (some ⟨b0, 0, none⟩)))).run Try.prog w' = .ok (.agg (wkC W H d s (.slice ao os.length co)).toArray) w') (first | exact HK.out _ X0.out | exact HK.out _ X3.out | exact HK.out _ X4.out) (first
    | (go_at_call 41; have := X3; refine (planes_any W H d s (.slice ao os.length co) w3).mono ?_; rintro _ w4 ⟨Bb, rfl, hq1, hq2, hq3, hq4, hql, hx4⟩; have X4 := Lib.hid (X3.out.trans hx4))
    | (go_at_call 41; refine (planes_any W H d s (.slice ao os.length co) w2.drew).mono ?_; rintro _ w3 ⟨Ba, rfl, hp1, hp2, hp3, hp4, hpl, hx3⟩; have X3 := Lib.hid (X0.out.trans hx3)))
  obtain ⟨P, hP⟩ : ∃ P, plZ (sideN W) (sideN H) 1 d d = P := ⟨_, rfl⟩
  rw [hP] at hpl hql
  clear hP
  have HAB : Hid (w.heap.size ≤ b0 ∧ b0 < w2.heap.size ∧ w2.heap.size ≤ Ba.p ∧ w2.heap.size ≤ Ba.c ∧ w2.heap.size ≤ Ba.d ∧ w2.heap.size ≤ Ba.m ∧ Ba.p < w3.heap.size ∧ Ba.c < w3.heap.size ∧ Ba.d < w3.heap.size ∧ Ba.m < w3.heap.size ∧ w3.heap.size ≤ Bb.p ∧ w3.heap.size ≤ Bb.c ∧ w3.heap.size ≤ Bb.d ∧ w3.heap.size ≤ Bb.m ∧ Bb.p < w4.heap.size ∧ Bb.c < w4.heap.size ∧ Bb.d < w4.heap.size ∧ Bb.m < w4.heap.size) := Lib.hid (by
    have h0 : w2.drew.heap.size = w2.heap.size := rfl
    have h1 := HB0.out
    have h2 := heap_lt HWK.out
    exact ⟨by omega, h2, hp1, hp2, hp3, hp4, heap_lt hpl.p, heap_lt hpl.c, heap_lt hpl.d, heap_lt hpl.m, hq1, hq2, hq3, hq4, heap_lt hql.p, heap_lt hql.c, heap_lt hql.d, heap_lt hql.m⟩)
  have HPA := Lib.hid (hpl.ext hx4)
  have HPB := Lib.hid hql
  have HX24 := Lib.hid X4.out
  have HX4 := Lib.hid (HX2.out.trans X4.out)
  have HW4 := Lib.hid (X4.out.heap HWK.out)
  have HM4 := Lib.hid (sks_ext HM1.out X4.out)
  have hok : 1 ≤ P.W ∧ P.W ≤ 64 ∧ 1 ≤ P.H ∧ P.H ≤ 64 := ⟨hql.ok.w1, hql.ok.w2, hql.ok.h1, hql.ok.h2⟩
  have HOK := Lib.hid hok
  clear hp1 hp2 hp3 hp4 hpl hx3 hq1 hq2 hq3 hq4 hql hx4 HK HM1 HWK HX2 X0 X3 X4 hok
  go_upto_region 9 with (first
    | (go_at_call 22; refine (sides_any Ba P _ HPA.out).mono ?_; rintro _ w5 ⟨rfl, hx5⟩)
    | (go_at_call 42; refine (new_any P.W P.H HOK.out.1 HOK.out.2.1 HOK.out.2.2.1 HOK.out.2.2.2 w5).mono ?_; rintro _ w6 ⟨pb, gb, rfl, hg1, hg2, hbt, hgb, hx6⟩))
  have HBN := Lib.hid (fresh_bin hg1 hg2 hbt hgb hx6)
  have HGB : Hid (w4.heap.size ≤ gb ∧ gb < pb) := Lib.hid ⟨by have := hx5.size; omega, hg2⟩
  have hx46 := hx5.trans hx6
  have HPA6 := Lib.hid (HPA.out.ext hx46)
  have HPB6 := Lib.hid (HPB.out.ext hx46)
  have HX6 := Lib.hid (HX4.out.trans hx46)
  have HW6 := Lib.hid (hx46.heap HW4.out)
  have HM6 := Lib.hid (sks_ext HM4.out hx46)
  have n5 := hx5.size
  clear hx5 hx6 hx46 hg1 hg2 hbt hgb HPA HPB HX4 HW4 HM4 HX24
  go_upto_region 11 with (first
    | (go_at_call 40; refine (few_any _ L1 w6 (SksMy.at HM6.out)).mono ?_; rintro _ w7 ⟨a2, c2, L2, rfl, hm2, he2, hx7⟩)
    | (go_at_call 45; refine (add_fresh _ _ pb gb P.W P.H _ L2 w7 (HBN.out.ext hx7) HOK.out.2.1 HOK.out.2.2.2 hm2 (few_facts he2).1 (few_facts he2).2).mono ?_; rintro _ w8 ⟨rfl, T, hb8, ht8, hc8⟩))
  rw [trim_again HE1.out] at he2
  rw [he2] at ht8 hb8
  have hc68 := (hx7.chg [pb, gb]).trans hc8
  have hbp6 := heap_lt HBN.out.b
  have HPA8 := Lib.hid (HPA6.out.chg hc68 (by have := HAB.out; have := HGB.out; have := HX6.out.size; simp; omega) (by have := HAB.out; have := HGB.out; simp; omega) (by have := HAB.out; have := HGB.out; simp; omega) (by have := HAB.out; have := HGB.out; simp; omega))
  have HPB8 := Lib.hid (HPB6.out.chg hc68 (by have := HAB.out; have := HGB.out; simp; omega) (by have := HAB.out; have := HGB.out; simp; omega) (by have := HAB.out; have := HGB.out; simp; omega) (by have := HAB.out; have := HGB.out; simp; omega))
  have HW8 := Lib.hid (hc68.heap HW6.out (by have := HAB.out; have := HGB.out; simp; omega))
  have HM8 := Lib.hid (sks_chg HM6.out hc68 (fun m hm => by
    simp only [List.mem_cons, List.not_mem_nil, or_false] at hm
    rcases hm with rfl | rfl
    · exact ⟨_, _, HBN.out.b, by decide, by decide⟩
    · exact ⟨_, _, HBN.out.r, by decide, by decide⟩))
  have HX8 := Lib.hid (HX6.out.chgTrans hc68 (by have := HAB.out; have := HGB.out; simp; omega))
  have HB8 := Lib.hid hb8
  have HT8 := Lib.hid ht8
  have HTL : Hid (T.length ≤ 16 ∧ 0 < T.length) := Lib.hid (by
    rw [ht8.l]
    refine ⟨Nat.mul_le_mul (acr_le HOK.out.2.1) (acr_le HOK.out.2.2.2), Nat.mul_pos ?_ ?_⟩
    · have := HOK.out.1; unfold acr; omega
    · have := HOK.out.2.2.1; unfold acr; omega)
  have HL1 := Lib.hid (few_facts HE1.out)
  have HGE : Hid (w.heap.size ≤ b0 ∧ b0 < Ba.p ∧ b0 < Ba.c ∧ b0 < Ba.d ∧ b0 < Ba.m ∧ Ba.p < Bb.p ∧ Ba.p < Bb.c ∧ Ba.p < Bb.d ∧ Ba.p < Bb.m ∧ Ba.c < Bb.p ∧ Ba.c < Bb.c ∧ Ba.c < Bb.d ∧ Ba.c < Bb.m ∧ Ba.d < Bb.p ∧ Ba.d < Bb.c ∧ Ba.d < Bb.d ∧ Ba.d < Bb.m ∧ Ba.m < Bb.p ∧ Ba.m < Bb.c ∧ Ba.m < Bb.d ∧ Ba.m < Bb.m ∧ Bb.p < gb ∧ Bb.c < gb ∧ Bb.d < gb ∧ Bb.m < gb ∧ gb < pb ∧ pb < w8.heap.size ∧ w.heap.size ≤ m1 ∧ m1 ≤ Ba.p) := Lib.hid (by
    have h1 := HAB.out
    have h2 := HGB.out
    have h3 := heap_lt hb8.b
    have h4 := HMW.out
    omega)
  obtain ⟨bse, hbse⟩ : ∃ bse, w5.heap.size = bse := ⟨_, rfl⟩
  rw [hbse] at HB8
  have nb8 := heap_lt HW8.out
  clear hc68 hbp6 hx7 hc8 hb8 ht8 he2 hm2 HPA6 HPB6 HW6 HM6 HX6 HBN hbse n5 n2 HAB HGB HMW HB0
  have c41 := wkCellV HW8.out
  obtain ⟨K, hKd⟩ : ∃ K : Nat, min os.length 100 = K := ⟨_, rfl⟩
  go_cut [11] (fun x wc => x = .slice ao K co ∧ w8 = wc)
  case first =>
    have hoi : (os.length : Int) ≤ 9223372036854775807 := by unfold maxLen at hom; omega
    by_cases h100 : os.length ≤ 100
    · obtain rfl : K = os.length := by omega
      have h1 : (os.length : Int) ≤ 100 := by omega
      go_wp2_with fail
      go_meet
      exact ⟨rfl, rfl⟩
    · obtain rfl : K = 100 := by omega
      have h1 : ¬ (os.length : Int) ≤ 100 := by omega
      have h2 : (100 : Int) < (os.length : Int) := by omega
      go_wp2_with fail
      go_meet
      exact ⟨rfl, rfl⟩
  case rest =>
    obtain ⟨rfl, rfl⟩ := hcut
    have hkc : K ≤ co := by omega
    have hk100 : K ≤ 100 := by omega
    have hz := (HO.out.first (m := K) (by omega))
    obtain ⟨zs, hzs⟩ : ∃ zs, os.take K = zs := ⟨_, rfl⟩
    have hzl : zs.length = K := by rw [← hzs, List.length_take]; omega
    rw [hzs] at hz
    have HZ := Lib.hid hz
    have HZL := Lib.hid hzl
    clear hz hzs hzl hKd HO c41
    have HPT : Hid (∃ (n : Nat) (e0 : Int) (Pf : Pl) (Tf : List Tl) (nf : Nat), Tf.length = T.length ∧ Pf.W = P.W ∧ Pf.H = P.H ∧ ((onceB zs T.length = false ∧ n = 0 ∧ e0 = 2 ∧ Pf = P ∧ Tf = T ∧ nf = cntS P.W P.H (L1.map (·.1))) ∨ (onceB zs T.length = true ∧ stOk s = false ∧ n = 0 ∧ e0 = 340 ∧ Pf = P ∧ Tf = T ∧ nf = cntS P.W P.H (L1.map (·.1))) ∨ (onceB zs T.length = true ∧ stOk s = true ∧ e0 = 0 ∧ (Pf, n) = paintK s (skel T) zs (P, 0) ∧ Tf = T.map (fun _ => (.slice none 0 0, [])) ∧ nf = 0)) ∧
        ∀ (u : Value) (w9 : World), Ext w8 w9 → Ints .i64 w9 u zs → (∀ b, u.ownBlock = some b → w8.heap.size ≤ b) → Calls Try.prog 47 #[.pointer (some ⟨pb, 0, none⟩), .pointer (some ⟨Ba.p, 0, none⟩), .agg s.C.toArray, u] w9 fun e w' => e = .returned (.tuple #[.int .i64 n, .int .i64 e0]) ∧ PlAt w' Ba Pf ∧ BinAt bse w' pb gb P.W P.H Tf nf ∧ Chg [pb, gb, Ba.c, Ba.d, Ba.m] w9 w') := Lib.hid (by
      have hl := HTL.out
      have hz2 := HZL.out
      cases ho : onceB zs T.length with
      | false =>
        refine ⟨0, 2, P, T, _, rfl, rfl, rfl, .inl ⟨rfl, rfl, rfl, rfl, rfl, rfl⟩, fun u w9 x9 hu hub => ?_⟩
        refine (bpaint_arg bse pb gb T _ Ba P s u zs w9 (HB8.out.ext x9) (HPA8.out.ext x9) hu ho (by omega) (by omega)).mono ?_
        rintro e w' ⟨he, hx⟩
        exact ⟨he, (HPA8.out.ext x9).ext hx, (HB8.out.ext x9).ext hx, hx.chg _⟩
      | true =>
        cases hs : stOk s with
        | false =>
          refine ⟨0, 340, P, T, _, rfl, rfl, rfl, .inr (.inl ⟨rfl, rfl, rfl, rfl, rfl, rfl, rfl⟩), fun u w9 x9 hu hub => ?_⟩
          refine (bpaint_state bse pb gb T _ Ba P s u zs w9 (HB8.out.ext x9) (HPA8.out.ext x9) hu ho hs (by omega) (by omega)).mono ?_
          rintro e w' ⟨he, hx⟩
          exact ⟨he, (HPA8.out.ext x9).ext hx, (HB8.out.ext x9).ext hx, hx.chg _⟩
        | true =>
          refine ⟨(paintK s (skel T) zs (P, 0)).2, 0, (paintK s (skel T) zs (P, 0)).1, T.map (fun _ => (.slice none 0 0, [])), 0, by simp, (paintK_dim s (skel T) zs (P, 0)).1, (paintK_dim s (skel T) zs (P, 0)).2, .inr (.inr ⟨rfl, rfl, rfl, rfl, rfl, rfl⟩), fun u w9 x9 hu hub => ?_⟩
          refine (bpaint_ok bse pb gb T _ Ba P s u zs w9 (HB8.out.ext x9) (HPA8.out.ext x9) hu ho hs (by omega) HT8.out.a HT8.out.b (by omega) (fun b hb => by
            have h1 := hub b hb
            have h2 := heap_lt HPA8.out.c
            have h3 := heap_lt HPA8.out.d
            have h4 := heap_lt HPA8.out.m
            omega)).mono ?_
          rintro e w' ⟨he, hp, hbb, hc⟩
          exact ⟨he, hp, hbb, hc⟩)
    obtain ⟨n, e0, Pf, Tf, nf, hTf, hPW, hPH, hcase, hpt⟩ := HPT.out
    have HCASE := Lib.hid hcase
    have HPT2 := Lib.hid hpt
    have HDM := Lib.hid (And.intro hTf (And.intro hPW hPH))
    clear HPT hcase hpt hTf hPW hPH
    obtain ⟨i0, hi, hz0, hz1, hz2⟩ := info_parts info_intV
    have HK : Hid (∀ w', Ext w8 w' → (@Classical.epsilon _ neV (LdP 42 (.pointer (some ⟨b0, 3, none⟩)))).run Try.prog w' = .ok (.agg s.C.toArray) w') := Lib.hid fun w' x' => WkAt.loadS (x'.heap HW8.out)
    have X0 := Lib.hid (show Ext w8 w8.drew from (Ext.refl _).drew)
    have XA : Hid (Ext w8 (w8.drew.alloc (.cells #[] 3))) := Lib.hid (X0.out.alloc _)
    have HOM : Hid ((w8.drew.alloc (.cells #[] 3)).ownsRow w8.heap.size 3 1 (.slice (some ⟨w8.heap.size, 0, none⟩) 0 0) 0 []) := Lib.hid (World.ownsRow_made w8.drew #[] 0 (Nat.le_refl _) (Nat.zero_le _) (by simp))
    have HZA : Hid (SlC (w8.drew.alloc (.cells #[] 3)) (.slice ao K co) 1 K (zs.map (Value.int .i64))) := Lib.hid (by have h := (HZ.out.ext (HX8.out.trans XA.out)).1; rw [HZL.out] at h; exact h)
    have HONE : Hid (∀ u ∈ zs.map (Value.int .i64), u.oneCell' = true) := Lib.hid (by intro u hu; obtain ⟨z, _, rfl⟩ := List.mem_map.1 hu; rfl)
    go_upto_region 12 with fail
    go_region_held3 (fun w' => (@Classical.epsilon _ neV (LdP 42 (.pointer (some ⟨b0, 3, none⟩)))).run Try.prog w' = .ok (.agg s.C.toArray) w') (first | exact HK.out _ X0.out | exact HK.out _ XA.out | exact HK.out _ X9.out | exact HK10.out) (first
      | (refine step_append_all (by rfl) _ _ 89 (by rfl) w8.heap.size 3 i0 (.int .i64 0) 1 8 Try.underlying89 hi hz0 hz1 hz2 (by rfl) (by decide) (.slice (some ⟨w8.heap.size, 0, none⟩) 0 0) 0 [] (by rfl) HOM.out K (.slice ao K co) (zs.map (Value.int .i64)) (by rfl) HZA.out HONE.out (by unfold maxLen; omega) (by omega) (by simp) ?_; intro u w9 hown9 hgrow9; have X9 := Lib.hid (XA.out.grown hgrow9 (by intro k hk; simp [Value.ownBlock] at hk; omega)); have HU9 : Hid (Ints .i64 w9 u zs ∧ (∀ b, u.ownBlock = some b → w8.heap.size ≤ b)) := Lib.hid ⟨⟨by have h := SlC.owned hown9; rw [HZL.out]; simpa using h, HZ.out.2⟩, fun b hb => owns_base hown9 b hb⟩; clear hown9 hgrow9)
      | (go_at_call 47; refine (HPT2.out u w9 X9.out HU9.out.1 HU9.out.2).mono ?_; rintro _ w10 ⟨rfl, hp10, hb10, hc10⟩; have HK10 := Lib.hid (show (@Classical.epsilon _ neV (LdP 42 (.pointer (some ⟨b0, 3, none⟩)))).run Try.prog w10 = .ok (.agg s.C.toArray) w10 from by
          have hh := hc10.heap (X9.out.heap HW8.out) (by have := HGE.out; simp; omega)
          exact WkAt.loadS hh)))
    have HP10 := Lib.hid hp10
    have HB10 : Hid (BAt w10 pb P.W P.H (.slice (some ⟨gb, 0, none⟩) T.length T.length) nf) := Lib.hid (by have h := hb10.b; rw [HDM.out.1] at h; exact h)
    have HBB10 := Lib.hid hb10
    have HPB10 := Lib.hid ((HPB8.out.ext X9.out).chg hc10 (by have := HGE.out; simp; omega) (by have := HGE.out; simp; omega) (by have := HGE.out; simp; omega) (by have := HGE.out; simp; omega))
    have HM10 := Lib.hid ((sks_chg (sks_ext HM8.out X9.out) hc10 (fun m hm => by
        have hbb := HB8.out.ext X9.out
        have hpp := HPA8.out.ext X9.out
        simp only [List.mem_cons, List.not_mem_nil, or_false] at hm
        rcases hm with rfl | rfl | rfl | rfl | rfl
        · exact ⟨_, _, hbb.b, by decide, by decide⟩
        · exact ⟨_, _, hbb.r, by decide, by decide⟩
        · exact ⟨_, _, hpp.c, by decide, by decide⟩
        · exact ⟨_, _, hpp.d, by decide, by decide⟩
        · exact ⟨_, _, hpp.m, by decide, by decide⟩)))
    have HX10 := Lib.hid ((HX8.out.trans X9.out).chgTrans hc10 (by have := HGE.out; simp; omega))
    have HW10 := Lib.hid (hc10.heap (X9.out.heap HW8.out) (by have := HGE.out; simp; omega))
    have HZ10 := Lib.hid (HZ.out.ext HX10.out)
    clear hp10 hb10 hc10 HU9 HK HK10 HPT2 HB8 HPA8 HPB8 HW8 HM8 HX8 X0 XA HOM HZA HONE X9
    have HTI : Hid (∀ w', Ext w10 w' → Calls Try.prog 43 #[.pointer (some ⟨pb, 0, none⟩)] w' fun e w'' => e = .returned (.int .i64 T.length) ∧ w' = w'') := Lib.hid (fun w' x' => tiles_any pb P.W P.H T.length _ _ _ w' (HB10.out.ext x'))
    have HOR : Hid (∀ w', Ext w10 w' → Calls Try.prog 52 #[.slice ao K co, .int .i64 T.length] w' fun e w'' => e = .returned (.bool (onceB zs T.length)) ∧ Ext w' w'') := Lib.hid (fun w' x' => rorder_any _ zs T.length w' (HZ10.out.ext x') (by have := HTL.out; omega) (by have := HZL.out; omega))
    have HLE : Hid (∀ w', Ext w10 w' → Calls Try.prog 46 #[.pointer (some ⟨pb, 0, none⟩)] w' fun e w'' => e = .returned (.int .i64 nf) ∧ w' = w'') := Lib.hid (fun w' x' => len_any pb P.W P.H _ _ w' (HB10.out.ext x'))
    have HWI : Hid (∀ w', Ext w10 w' → Calls Try.prog 53 #[.int .i64 P.W, .int .i64 P.H, .slice a1 L1.length c1] w' fun e w'' => e = .returned (.int .i64 (cntS P.W P.H (L1.map (·.1)) : Nat)) ∧ Ext w' w'') := Lib.hid (fun w' x' => rwithin_any P.W P.H _ L1 w' HOK.out.2.1 HOK.out.2.2.2 ((SksMy.at HM10.out).ext x') (by have := HL1.out.1; omega))
    have HRI := Lib.hid (right_any s)
    rcases HCASE.out with ⟨h1, rfl, rfl, rfl, rfl, rfl⟩ | ⟨h1, h2, rfl, rfl, rfl, rfl, rfl⟩ | ⟨h1, h2, rfl, h3, rfl, rfl⟩
    · rw [h1] at HOR
      clear h1
      have HAL : Hid (∀ w', Ext w10 w' → Calls Try.prog 49 #[.pointer (some ⟨Ba.p, 0, none⟩), .pointer (some ⟨Bb.p, 0, none⟩)] w' fun e w'' => e = .returned (.bool true) ∧ Ext w' w'') := Lib.hid (fun w' x' => alike_eq Ba Bb Pf w' (HP10.out.ext x') (HPB10.out.ext x'))
      go_wp2_with (first
        | (go_at_call 43; refine (HTI.out _ (Ext.refl _)).mono ?_; rintro _ _ ⟨rfl, rfl⟩)
        | (go_at_call 52; refine (HOR.out _ (Ext.refl _)).mono ?_; rintro _ w11 ⟨rfl, hx11⟩)
        | (go_at_call 49; refine (HAL.out _ hx11).mono ?_; rintro _ w12 ⟨rfl, hx12⟩)
        | (go_at_call 46; refine (HLE.out _ (hx11.trans hx12)).mono ?_; rintro _ _ ⟨rfl, rfl⟩)
        | (go_at_call 53; refine (HWI.out _ (hx11.trans hx12)).mono ?_; rintro _ w13 ⟨rfl, hx13⟩))
      go_ret
      exact ⟨by first | rfl | simp, HX10.out.trans (hx11.trans (hx12.trans hx13))⟩
    · rw [h1] at HOR
      rw [h2] at HRI
      clear h1 h2
      have HAL : Hid (∀ w', Ext w10 w' → Calls Try.prog 49 #[.pointer (some ⟨Ba.p, 0, none⟩), .pointer (some ⟨Bb.p, 0, none⟩)] w' fun e w'' => e = .returned (.bool true) ∧ Ext w' w'') := Lib.hid (fun w' x' => alike_eq Ba Bb Pf w' (HP10.out.ext x') (HPB10.out.ext x'))
      go_wp2_with (first
        | (go_at_call 43; refine (HTI.out _ (Ext.refl _)).mono ?_; rintro _ _ ⟨rfl, rfl⟩)
        | (go_at_call 52; refine (HOR.out _ (Ext.refl _)).mono ?_; rintro _ w11 ⟨rfl, hx11⟩; have l11 := WkAt.loadS (hx11.heap HW10.out); have n11 := heap_lt (hx11.heap HW10.out))
        | (go_at_call 30; refine (HRI.out _).mono ?_; rintro _ w12 ⟨rfl, hx12⟩)
        | (go_at_call 49; refine (HAL.out _ (hx11.trans hx12)).mono ?_; rintro _ w13 ⟨rfl, hx13⟩)
        | (go_at_call 46; refine (HLE.out _ (hx11.trans (hx12.trans hx13))).mono ?_; rintro _ _ ⟨rfl, rfl⟩)
        | (go_at_call 53; refine (HWI.out _ (hx11.trans (hx12.trans hx13))).mono ?_; rintro _ w14 ⟨rfl, hx14⟩))
      go_ret
      exact ⟨by first | rfl | simp, HX10.out.trans (hx11.trans (hx12.trans (hx13.trans hx14)))⟩
    · rw [h1] at HOR
      rw [h2] at HRI
      have HSO := Lib.hid h2
      have HON := Lib.hid h1
      have HPK := Lib.hid h3
      clear h1 h2 h3 HWI HCASE
      obtain ⟨Tf, hTf⟩ : ∃ Tf, T.map (fun _ => ((.slice none 0 0, []) : Tl)) = Tf := ⟨_, rfl⟩
      rw [hTf] at HBB10 HDM
      have HTF := Lib.hid hTf
      clear hTf
      go_upto_region 18 with (first
        | (go_at_call 43; refine (HTI.out _ (Ext.refl _)).mono ?_; rintro _ _ ⟨rfl, rfl⟩)
        | (go_at_call 52; refine (HOR.out _ (Ext.refl _)).mono ?_; rintro _ w11 ⟨rfl, hx11⟩; have l11 := WkAt.loadS (hx11.heap HW10.out); have n11 := heap_lt (hx11.heap HW10.out))
        | (go_at_call 30; refine (HRI.out _).mono ?_; rintro _ w12 ⟨rfl, hx12⟩))
      have hx := hx11.trans hx12
      have HPA2 := Lib.hid (HP10.out.ext hx)
      have HPB2 := Lib.hid (HPB10.out.ext hx)
      have HBI2 := Lib.hid (HBB10.out.ext hx)
      have HM2 := Lib.hid (sks_ext HM10.out hx)
      have HX2' := Lib.hid (HX10.out.trans hx)
      have HW2 := Lib.hid (hx.heap HW10.out)
      have HTY : Hid (∀ m ∈ [Bb.c, Bb.d, Bb.m], ∃ cs e, w12.heap[m]? = some (.cells cs e (0, 0)) ∧ e ≠ 99 ∧ e ≠ 26 ∧ e ≠ 152 ∧ e ≠ 92) := Lib.hid (by
        intro m hm
        simp only [List.mem_cons, List.not_mem_nil, or_false] at hm
        rcases hm with rfl | rfl | rfl
        · exact ⟨_, _, HPB2.out.c, by decide, by decide, by decide, by decide⟩
        · exact ⟨_, _, HPB2.out.d, by decide, by decide, by decide, by decide⟩
        · exact ⟨_, _, HPB2.out.m, by decide, by decide, by decide, by decide⟩)
      have HBW : Hid (b0 < w12.heap.size ∧ Bb.c < w12.heap.size ∧ Bb.d < w12.heap.size ∧ Bb.m < w12.heap.size ∧ m1 ≤ w12.heap.size) := Lib.hid (by
        have h1 := heap_lt HW2.out
        have h2 := heap_lt HPB2.out.c
        have h3 := heap_lt HPB2.out.d
        have h4 := heap_lt HPB2.out.m
        have h5 := HX2'.out.size
        have h6 := HGE.out
        have h7 := heap_lt HBI2.out.b
        omega)
      have hli : (L1.length : Int) ≤ 200 := by have := HL1.out.1; omega
      clear hx hx11 hx12 l11 n11 HP10 HPB10 HB10 HBB10 HM10 HX10 HW10 HTI HOR HLE HRI HZ10
      have hki : (K : Int) ≤ 100 := by omega
      go_wp2_with fail
      go_loopw [13, 127] (fun m i wr => ∃ (k : Nat) (a : Pl × Nat), k ≤ K ∧ i = .int .i64 k ∧ m = .int .i64 a.2 ∧ Hid (UInv s (skel T) zs Bb w12 wr P k a)) (fun _ i _ => K - (intOf i).toNat)
      case atStart => exact ⟨0, (P, 0), Nat.zero_le _, rfl, rfl, Lib.hid ⟨rfl, HPB2.out, Chg.refl _ _, Nat.le_refl _⟩⟩
      case round =>
        rename World => wr
        obtain ⟨k, ⟨Pk, nk⟩, hk, rfl, rfl, HI⟩ := hrel
        have hnk : nk ≤ 1000 * k := HI.out.l
        have HXR : Hid (Ext w wr) := Lib.hid (HX2'.out.chgTrans HI.out.c (by have := HGE.out; simp; omega))
        by_cases hlt : k < K
        · have hkK : (k : Int) < (K : Int) := by omega
          have hzr := HZ.out.ext HXR.out
          obtain ⟨bo, oo, rfl, _, hcell⟩ := hzr.pos (by rw [HZL.out]; omega)
          obtain ⟨z, hz⟩ : ∃ z, zs[k]? = some z := ⟨_, List.getElem?_eq_getElem (by rw [HZL.out]; exact hlt)⟩
          have cz : wr.cell? ⟨bo, oo + k, none⟩ = some (.int .i64 z) := by
            have h := hcell k (by rw [HZL.out]; exact hlt)
            rw [List.getD_eq_getElem?_getD, hz] at h
            exact h
          have HZI := Lib.hid (onceB_in HON.out z (List.mem_of_getElem? hz))
          have HZK := Lib.hid hz
          have HMR := Lib.hid (sks_chg HM2.out HI.out.c (fun m hm => by obtain ⟨cs, e, h1, h2, h3, _⟩ := HTY.out m hm; exact ⟨cs, e, h1, h2, h3⟩))
          have HRL := Lib.hid (rlist_any P.W P.H z _ L1 wr HOK.out.2.1 HOK.out.2.2.2 (SksMy.at HMR.out) (by have := HL1.out.1; omega))
          obtain ⟨F, hF⟩ : ∃ F, (L1.filter fun q => inT P.W P.H z q.1) = F := ⟨_, rfl⟩
          rw [hF] at HRL
          have HF := Lib.hid hF
          have HFS : Hid ((skel T).getD z.toNat [] = F.map (·.1)) := Lib.hid (by
            have hz' := HZI.out
            rw [HT8.out.s, addS_getD HOK.out.2.1 rfl _ _ (by simp) z.toNat (by have := HT8.out.l; omega), List.getD_eq_getElem?_getD, List.getElem?_replicate, ← hF]
            have hzn : ((z.toNat : Nat) : Int) = z := by omega
            rw [hzn]
            have : ∀ l : List (Sk × Value), (l.map (·.1)).filter (inT P.W P.H z) = (l.filter fun q => inT P.W P.H z q.1).map (·.1) := fun l => by rw [List.filter_map]; rfl
            rw [← this]
            split <;> rfl)
          have HFL : Hid (F.length ≤ 200) := Lib.hid (by rw [← hF]; exact Nat.le_trans (List.length_filter_le _ _) HL1.out.1)
          have HFM : Hid (∀ q ∈ F, q ∈ L1) := Lib.hid (by rw [← hF]; exact fun q hq => (List.mem_filter.1 hq).1)
          clear hz hzr hcell hF
          go_upto_region 22 with (go_at_call 54; refine HRL.out.mono ?_; rintro _ w13 ⟨u, rfl, hown, hx13⟩; obtain ⟨au, cu, rfl⟩ := ownsB_slice hown)
          have HFO : Hid (SksMy m1 w13 (.slice au F.length cu) F) := Lib.hid ⟨owns_mono hown (by have := HBW.out; have := HI.out.c.size; omega), fun q hq => owns_ext (HMR.out.2 q (HFM.out q hq)) hx13⟩
          have HP13 := Lib.hid (HI.out.p.ext hx13)
          have HC13 := Lib.hid (HI.out.c.ext2 hx13)
          have hfi : (F.length : Int) ≤ 200 := by have := HFL.out; omega
          have HPKK := Lib.hid HI.out.e
          clear hown hx13 cz
          go_wp2_with fail
          go_loopw [13, 137] (fun m i wq => ∃ (j : Nat) (a : Pl × Nat), j ≤ F.length ∧ i = .int .i64 j ∧ m = .int .i64 a.2 ∧ Hid (VInv s Bb w13 wq (Pk, nk) (F.map (·.1)) j a)) (fun _ i _ => F.length - (intOf i).toNat)
          case atStart => exact ⟨0, (Pk, nk), Nat.zero_le _, rfl, rfl, Lib.hid ⟨rfl, HP13.out, Chg.refl _ _, Nat.le_refl _⟩⟩
          case round =>
            rename World => wq
            obtain ⟨j, ⟨Pj, nj⟩, hj, rfl, rfl, HV⟩ := hrel
            have hnj : nj ≤ nk + j := HV.out.l
            by_cases hltj : j < F.length
            · have hji : (j : Int) < (F.length : Int) := by omega
              obtain ⟨q, hq⟩ : ∃ q, F[j]? = some q := ⟨_, List.getElem?_eq_getElem hltj⟩
              have HLR := Lib.hid (sks_chg HFO.out HV.out.c (fun m hm => by
                obtain ⟨cs, e, h1, h2, h3, _⟩ := HTY.out m hm
                have hh := (HC13.out.trans HV.out.c).size
                simp only [List.mem_cons, List.not_mem_nil, or_false] at hm
                rcases hm with rfl | rfl | rfl
                · exact ⟨_, _, HP13.out.c, by decide, by decide⟩
                · exact ⟨_, _, HP13.out.d, by decide, by decide⟩
                · exact ⟨_, _, HP13.out.m, by decide, by decide⟩))
              obtain ⟨b, off, rfl, _, _⟩ := (SksMy.at HLR.out).1.pos (by omega)
              have hld := sk_get (SksMy.at HLR.out) hq
              obtain ⟨va, vc, he⟩ := sk_slice ((SksMy.at HLR.out).2 q (List.mem_of_getElem? hq))
              obtain ⟨w6, hst6, h6, hx6⟩ := newStroke wq q (by rw [he]; cases va <;> rfl)
              have hs6 := hx6.heap (HV.out.c.heap (HC13.out.heap HW2.out (by have := HGE.out; simp only [List.mem_cons, List.not_mem_nil, or_false]; omega)) (by have := HGE.out; simp only [List.mem_cons, List.not_mem_nil, or_false]; omega))
              have ls := WkAt.loadS hs6
              have ns := heap_lt hs6
              have hp6 := HV.out.p.ext hx6
              have lf := skB_frag (q := q.1) (vs := q.2) h6
              have lc := skB_col (q := q.1) (vs := q.2) h6
              have nb := heap_lt h6
              have HX6 := Lib.hid hx6
              have HST : Hid (((F.map (·.1)).take (j + 1)).foldl (stepK s) (Pk, nk) = stepK s (Pj, nj) q.1) := Lib.hid (by
                rw [List.take_add_one, List.getElem?_map, hq, List.foldl_append, HV.out.e]
                rfl)
              cases hin : inP Pj.W Pj.H q.1.x q.1.y with
              | false =>
                have HPI := Lib.hid (paintp_out Bb Pj s ⟨q.1.x, q.1.y, q.1.z, q.1.iw, q.1.front, q.1.pt, q.2⟩ q.1.col HSO.out hin w6 hp6)
                have HIN := Lib.hid hin
                have HP6 := Lib.hid hp6
                clear hs6 hp6 h6 hx6 hq he hin
                go_wp2_with (go_at_call 24; refine HPI.out.mono ?_; rintro _ wc ⟨rfl, hxc⟩)
                go_roundw
                case rel =>
                  have e : stepK s (Pj, nj) q.1 = (Pj, nj) := by unfold stepK; rw [if_neg]; rw [HIN.out]; decide
                  exact ⟨j + 1, (Pj, nj), by omega, by go_num, rfl, Lib.hid ⟨by rw [HST.out, e], HP6.out.ext hxc, HV.out.c.ext2 (HX6.out.trans hxc), by show nj ≤ nk + _; omega⟩⟩
                case measure => simp [intOf]; omega
              | true =>
                have hpi := paintp_in Bb Pj s ⟨q.1.x, q.1.y, q.1.z, q.1.iw, q.1.front, q.1.pt, q.2⟩ q.1.col HSO.out hin w6 hp6
                obtain ⟨bb, hbb⟩ : ∃ bb, (ptV s ⟨q.1.x, q.1.y, q.1.z, q.1.iw, q.1.front, q.1.pt, q.2⟩ q.1.col Pj).2 = bb := ⟨_, rfl⟩
                rw [hbb] at hpi
                have HE : Hid (stepK s (Pj, nj) q.1 = (ptP s ⟨q.1.x, q.1.y, q.1.z, q.1.iw, q.1.front, q.1.pt, q.2⟩ q.1.col Pj, nj + if bb then 1 else 0)) := Lib.hid (by
                  unfold stepK
                  rw [if_pos hin, ← hbb]
                  rfl)
                obtain ⟨Pn, hPn⟩ : ∃ Pn, ptP s ⟨q.1.x, q.1.y, q.1.z, q.1.iw, q.1.front, q.1.pt, q.2⟩ q.1.col Pj = Pn := ⟨_, rfl⟩
                rw [hPn] at hpi HE
                have HPI := Lib.hid hpi
                clear hs6 hp6 h6 hx6 hq he hin hpi hbb hPn
                cases bb with
                | false =>
                  go_wp2_with (go_at_call 24; refine HPI.out.mono ?_; rintro _ wc ⟨rfl, hp2, hc2⟩)
                  go_roundw
                  case rel => exact ⟨j + 1, (Pn, nj), by omega, by go_num, rfl, Lib.hid ⟨by rw [HST.out, HE.out]; rfl, hp2, (HV.out.c.ext2 HX6.out).trans hc2, by show nj ≤ nk + _; omega⟩⟩
                  case measure => simp [intOf]; omega
                | true =>
                  go_wp2_with (go_at_call 24; refine HPI.out.mono ?_; rintro _ wc ⟨rfl, hp2, hc2⟩)
                  go_roundw
                  case rel => exact ⟨j + 1, (Pn, nj + 1), by omega, by go_num, by go_num, Lib.hid ⟨by rw [HST.out, HE.out]; rfl, hp2, (HV.out.c.ext2 HX6.out).trans hc2, by show nj + 1 ≤ nk + _; omega⟩⟩
                  case measure => simp [intOf]; omega
            · obtain rfl : j = F.length := by omega
              have he := HV.out.e
              rw [List.take_of_length_le (by rw [List.length_map]; exact Nat.le_refl _), ← HFS.out] at he
              have HE : Hid (paintK s (skel T) (zs.take (k + 1)) (P, 0) = (Pj, nj)) := Lib.hid (by
                rw [List.take_add_one, HZK.out]
                unfold paintK at HPKK ⊢
                rw [List.foldl_append, HPKK.out]
                exact he)
              have hfl := HFL.out
              clear he
              go_wp2_with fail
              go_roundw
              case rel => exact ⟨k + 1, (Pj, nj), by omega, by go_num, rfl, Lib.hid ⟨HE.out, HV.out.p, HC13.out.trans HV.out.c, by show nj ≤ _; omega⟩⟩
              case measure => simp [intOf]; omega
        · obtain rfl : k = K := by omega
          have he := HI.out.e
          rw [List.take_of_length_le (by rw [HZL.out]; exact Nat.le_refl _), ← HPK.out] at he
          obtain ⟨rfl, rfl⟩ := Prod.mk.inj he
          clear he
          have HPR := Lib.hid (HPA2.out.chg HI.out.c (by have := HGE.out; simp; omega) (by have := HGE.out; simp; omega) (by have := HGE.out; simp; omega) (by have := HGE.out; simp; omega))
          have HQR := Lib.hid HI.out.p
          have HBR := Lib.hid (HBI2.out.chg HI.out.c HTY.out)
          have HWR := Lib.hid (HI.out.c.heap HW2.out (by have := HGE.out; simp only [List.mem_cons, List.not_mem_nil, or_false]; omega))
          have HAL : Hid (∀ w', Ext wr w' → Calls Try.prog 49 #[.pointer (some ⟨Ba.p, 0, none⟩), .pointer (some ⟨Bb.p, 0, none⟩)] w' fun e w'' => e = .returned (.bool true) ∧ Ext w' w'') := Lib.hid (fun w' x' => alike_eq Ba Bb Pf w' (HPR.out.ext x') (HQR.out.ext x'))
          have HLE : Hid (∀ w', Ext wr w' → Calls Try.prog 46 #[.pointer (some ⟨pb, 0, none⟩)] w' fun e w'' => e = .returned (.int .i64 0) ∧ w' = w'') := Lib.hid (fun w' x' => len_any pb P.W P.H _ _ w' (HBR.out.ext x').b)
          have HTI : Hid (∀ w', Ext wr w' → Calls Try.prog 43 #[.pointer (some ⟨pb, 0, none⟩)] w' fun e w'' => e = .returned (.int .i64 T.length) ∧ w' = w'') := Lib.hid (fun w' x' => by
            have h := (HBR.out.ext x').b
            rw [HDM.out.1] at h
            exact tiles_any pb P.W P.H T.length _ _ _ w' h)
          have HLI : Hid (∀ (t : Int) w', Ext wr w' → Calls Try.prog 51 #[.pointer (some ⟨pb, 0, none⟩), .int .i64 t] w' (ListPost w' Tf t)) := Lib.hid (fun t w' x' => list_any bse pb gb P.W P.H Tf _ t w' (HBR.out.ext x') (fun x hx => by
            rw [← HTF.out] at hx
            obtain ⟨y, _, rfl⟩ := List.mem_map.1 hx
            exact Nat.zero_le _) (by have := HDM.out.1; have := HTL.out; omega))
          have HNL : Hid (∀ t, tlL Tf t = []) := Lib.hid (fun t => by rw [← HTF.out]; exact tlL_nil T t)
          have hti : (T.length : Int) ≤ 16 := by have := HTL.out; omega
          clear HI
          go_upto_region 31 with (first
            | (go_at_call 49; refine (HAL.out _ (Ext.refl _)).mono ?_; rintro _ w13 ⟨rfl, hx13⟩)
            | (go_at_call 46; refine (HLE.out _ hx13).mono ?_; rintro _ _ ⟨rfl, rfl⟩))
          have HX13 := Lib.hid hx13
          go_wp2_with (go_at_call 43; refine (HTI.out _ HX13.out).mono ?_; rintro _ _ ⟨rfl, rfl⟩)
          clear hx13
          go_loopw [177] (fun i wq => ∃ j : Nat, j ≤ T.length ∧ i = .int .i64 j ∧ Hid (Ext wr wq)) (fun i _ => T.length - (intOf i).toNat)
          case atStart => exact ⟨0, Nat.zero_le _, rfl, HX13⟩
          case round =>
            rename World => wq
            obtain ⟨j, hj, rfl, HXQ⟩ := hrel
            by_cases hltj : j < T.length
            · have hji : (j : Int) < (T.length : Int) := by omega
              go_wp2_with (first
                | (go_at_call 51; refine (HLI.out j wq HXQ.out).mono ?_; rintro _ w14 ⟨cb, lv, rfl, hcb, hc14, hs14, hl14, hx14⟩; rw [HNL.out] at hs14)
                | (go_at_call 55; refine (told_any cb lv [] (.slice none 0 0) [] w14 hc14 hs14 ⟨SlC.nil _ _, by simp⟩ rfl (fun k hk => by
                    rcases hk with rfl | hk | ⟨q, hq, _⟩
                    · exact heap_lt hc14
                    · exact (hl14 k hk).2
                    · cases hq) (by simp) (by simp)).mono ?_; rintro _ w15 ⟨rfl, hx15⟩))
              go_roundw
              case rel => exact ⟨j + 1, by omega, by go_num, Lib.hid (HXQ.out.trans (hx14.trans hx15))⟩
              case measure => simp [intOf]; omega
            · obtain rfl : j = T.length := by omega
              have HPT : Hid (∀ (u : Value) (w9 : World), Ext wq w9 → Ints .i64 w9 u zs → (∀ b, u.ownBlock = some b → wq.heap.size ≤ b) → Calls Try.prog 47 #[.pointer (some ⟨pb, 0, none⟩), .pointer (some ⟨Ba.p, 0, none⟩), .agg s.C.toArray, u] w9 fun e w' => e = .returned (.tuple #[.int .i64 0, .int .i64 0]) ∧ PlAt w' Ba Pf ∧ Chg [pb, gb, Ba.c, Ba.d, Ba.m] w9 w') := Lib.hid (fun u w9 x9 hu hub => by
                have hl := HTL.out
                have hz2 := HZL.out
                have hdm := HDM.out
                have hxx := HXQ.out.trans x9
                have hbi := HBR.out.ext hxx
                rw [← hdm.2.1, ← hdm.2.2] at hbi
                refine (bpaint_ok bse pb gb Tf _ Ba Pf s u zs w9 hbi (HPR.out.ext hxx) hu (by rw [hdm.1]; exact HON.out) HSO.out (by omega) (fun x hx => by rw [← HTF.out] at hx; obtain ⟨y, _, rfl⟩ := List.mem_map.1 hx; exact Nat.zero_le _) (fun x hx q hq => by rw [← HTF.out] at hx; obtain ⟨y, _, rfl⟩ := List.mem_map.1 hx; cases hq) (by omega) (fun b hb => by
                  have h1 := hub b hb
                  have h2 := heap_lt (HPR.out.ext HXQ.out).c
                  have h3 := heap_lt (HPR.out.ext HXQ.out).d
                  have h4 := heap_lt (HPR.out.ext HXQ.out).m
                  omega)).mono ?_
                rintro e w' ⟨he, hp, _, hc⟩
                rw [← HTF.out, paintK_nil] at he hp
                exact ⟨he, hp, hc⟩)
              have HZQ := Lib.hid (HZ.out.ext (HXR.out.trans HXQ.out))
              have HK : Hid (∀ w', Ext wq w' → (@Classical.epsilon _ neV (LdP 42 (.pointer (some ⟨b0, 3, none⟩)))).run Try.prog w' = .ok (.agg s.C.toArray) w') := Lib.hid fun w' x' => WkAt.loadS ((HXQ.out.trans x').heap HWR.out)
              have X0 := Lib.hid (show Ext wq wq.drew from (Ext.refl _).drew)
              have XA : Hid (Ext wq (wq.drew.alloc (.cells #[] 3))) := Lib.hid (X0.out.alloc _)
              have HOM : Hid ((wq.drew.alloc (.cells #[] 3)).ownsRow wq.heap.size 3 1 (.slice (some ⟨wq.heap.size, 0, none⟩) 0 0) 0 []) := Lib.hid (World.ownsRow_made wq.drew #[] 0 (Nat.le_refl _) (Nat.zero_le _) (by simp))
              have HZA : Hid (SlC (wq.drew.alloc (.cells #[] 3)) (.slice ao k co) 1 k (zs.map (Value.int .i64))) := Lib.hid (by have h := (HZQ.out.ext XA.out).1; rw [HZL.out] at h; exact h)
              have HONE : Hid (∀ u ∈ zs.map (Value.int .i64), u.oneCell' = true) := Lib.hid (by intro u hu; obtain ⟨z, _, rfl⟩ := List.mem_map.1 hu; rfl)
              go_upto_region 37 with fail
              go_region_held3 (fun w' => (@Classical.epsilon _ neV (LdP 42 (.pointer (some ⟨b0, 3, none⟩)))).run Try.prog w' = .ok (.agg s.C.toArray) w') (first | exact HK.out _ X0.out | exact HK.out _ XA.out | exact HK.out _ X9.out | exact HK10.out) (first
                | (refine step_append_all (by rfl) _ _ 89 (by rfl) wq.heap.size 3 i0 (.int .i64 0) 1 8 Try.underlying89 hi hz0 hz1 hz2 (by rfl) (by decide) (.slice (some ⟨wq.heap.size, 0, none⟩) 0 0) 0 [] (by rfl) HOM.out k (.slice ao k co) (zs.map (Value.int .i64)) (by rfl) HZA.out HONE.out (by unfold maxLen; omega) (by omega) (by simp) ?_; intro u w9 hown9 hgrow9; have X9 := Lib.hid (XA.out.grown hgrow9 (by intro k hk; simp [Value.ownBlock] at hk; omega)); have HU9 : Hid (Ints .i64 w9 u zs ∧ (∀ b, u.ownBlock = some b → wq.heap.size ≤ b)) := Lib.hid ⟨⟨by have h := SlC.owned hown9; rw [HZL.out]; simpa using h, HZ.out.2⟩, fun b hb => owns_base hown9 b hb⟩; clear hown9 hgrow9)
                | (go_at_call 47; refine (HPT.out u w9 X9.out HU9.out.1 HU9.out.2).mono ?_; rintro _ w10 ⟨rfl, hp10, hc10⟩; have HK10 := Lib.hid (show (@Classical.epsilon _ neV (LdP 42 (.pointer (some ⟨b0, 3, none⟩)))).run Try.prog w10 = .ok (.agg s.C.toArray) w10 from by
                    have hh := hc10.heap ((HXQ.out.trans X9.out).heap HWR.out) (by have := HGE.out; simp; omega)
                    exact WkAt.loadS hh)))
              have HPA10 := Lib.hid hp10
              have HPB10 := Lib.hid ((HQR.out.ext (HXQ.out.trans X9.out)).chg hc10 (by have := HGE.out; simp; omega) (by have := HGE.out; simp; omega) (by have := HGE.out; simp; omega) (by have := HGE.out; simp; omega))
              have HX10 := Lib.hid (((HXR.out.trans HXQ.out).trans X9.out).chgTrans hc10 (by have := HGE.out; simp; omega))
              clear hp10 hc10 HU9 HK HK10
              go_wp2_with (go_at_call 49; refine (alike_eq Ba Bb Pf _ HPA10.out HPB10.out).mono ?_; rintro _ w11 ⟨rfl, hx11⟩)
              go_ret
              exact ⟨by first | rfl | simp, HX10.out.trans hx11⟩
theorem bpaint_arg' (W : World) (v0 v1 : Value) (h0 : ArgIs Try.prog W 91 v0) (h1 : ArgIs Try.prog W 92 v1) : Calls Try.prog 10 #[v0, v1] W fun e w' => e = .returned (.bool true) ∧ Ext W w' := by
  obtain ⟨W0, H, d, s, o, rfl, ho⟩ := wkIn h0
  obtain ⟨L, hL⟩ := sk_arg h1
  obtain ⟨os, hos⟩ := cell_intsV ho
  exact bpaint_walk W0 H d s o v1 L os W hL hos
end
end Go.Proofs.Ytgdcdkajicgliaa
