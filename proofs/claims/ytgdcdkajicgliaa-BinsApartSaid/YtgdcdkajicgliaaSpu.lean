/- Contract of spun: an order that has each number once. Conditions: each theorem's own premises. -/
import Derived.Test.YtgdcdkajicgliaaBinP
import Derived.Deep.RegionLaw
namespace Go.Proofs.Ytgdcdkajicgliaa
open Go.RowKit
set_option linter.unusedVariables false
set_option maxRecDepth 100000
set_option linter.unusedSimpArgs false

/-- Numbers 0 to n - 1. -/
def natL (n : Nat) : List Int := (List.range n).map fun (i : Nat) => (i : Int)
/-- The first k of n cells are set. -/
def idC (n k : Nat) : List Value := (List.range n).map fun i => Value.int .i64 (if i < k then (i : Int) else 0)
theorem idC_zero (n : Nat) : madeCells #[Value.int .i64 0] n = (idC n 0).toArray := by
  apply Array.ext'
  unfold idC
  refine List.ext_getElem (by simp [madeCells]) fun i h1 h2 => ?_
  simp [madeCells, Nat.mod_one]
theorem idC_set {n k : Nat} (hk : k < n) : (idC n k).set k (.int .i64 k) = idC n (k + 1) := by
  unfold idC
  refine List.ext_getElem (by simp) fun i h1 h2 => ?_
  rw [List.getElem_set]
  simp only [List.getElem_map, List.getElem_range]
  split
  · rename_i e
    subst e
    simp
  · rename_i e
    by_cases hi : i < k
    · rw [if_pos hi, if_pos (by omega)]
    · rw [if_neg hi, if_neg (by omega)]
theorem idC_full (n : Nat) : idC n n = (natL n).map (Value.int .i64) := by
  unfold idC natL
  rw [List.map_map]
  refine List.map_congr_left fun i hi => ?_
  rw [if_pos (List.mem_range.1 hi)]
  rfl
theorem natL_mem {n : Nat} {z : Int} (h : z ∈ natL n) : 0 ≤ z ∧ z < n := by
  unfold natL at h
  obtain ⟨i, hi, rfl⟩ := List.mem_map.1 h
  have := List.mem_range.1 hi
  omega
theorem natL_once {n : Nat} {zs : List Int} (h : zs.Perm (natL n)) : onceB zs n = true ∧ zs.length = n := by
  have hl : zs.length = n := by rw [h.length_eq]; simp [natL]
  refine ⟨?_, hl⟩
  unfold onceB
  rw [Bool.and_eq_true, decide_eq_true_eq, decide_eq_true_eq]
  refine ⟨⟨fun z hz => natL_mem (h.mem_iff.1 hz), h.nodup_iff.2 ?_⟩, hl⟩
  unfold natL
  exact List.Pairwise.map _ (fun (a b : Nat) (hab : a ≠ b) e => hab (by omega)) List.nodup_range
theorem perm_out {n k : Nat} {os lf : List Int} {y : Int} (h : (os ++ lf).Perm (natL n)) (hy : lf[k]? = some y) : ((os ++ [y]) ++ (lf.take k ++ lf.drop (k + 1))).Perm (natL n) := by
  refine List.Perm.trans ?_ h
  rw [List.append_assoc]
  refine List.Perm.append_left os ?_
  have hk := (List.getElem?_eq_some_iff.1 hy).1
  have e : lf = lf.take k ++ y :: lf.drop (k + 1) := by
    have h2 := (List.getElem?_eq_some_iff.1 hy).2
    rw [← h2, List.getElem_cons_drop, List.take_append_drop]
  conv => rhs; rw [e]
  show (y :: (lf.take k ++ lf.drop (k + 1))).Perm _
  exact List.perm_middle.symm
theorem info_intO : (Try.prog.info? 3).map (fun i => (i.zero, i.size, i.bytes)) = some (some (.int .i64 0), 1, 8) := by kernel_rfl
theorem i64_wf {z : Int} (h0 : 0 ≤ z) (h1 : z < 1000000) : (Lit.int .i64 z).wf = true := by
  rw [← wrap64_wf z]
  congr 2
  unfold wrap64
  omega
theorem rem_ok (z : Int) (m : Nat) (h : 0 < m) (hm : m ≤ 1000) : ∃ j : Nat, j < m ∧ wrap64 ((IntKind.u64.wrap z).tmod (m : Int)) = (j : Int) := by
  have h1 : IntKind.u64.wrap z = z % 18446744073709551616 := rfl
  have h2 : 0 ≤ z % 18446744073709551616 := by omega
  rw [h1, Int.tmod_eq_emod_of_nonneg h2]
  have h3 := Int.emod_nonneg (z % 18446744073709551616) (show (m : Int) ≠ 0 by omega)
  have h4 := Int.emod_lt_of_pos (z % 18446744073709551616) (show (0 : Int) < m by omega)
  obtain ⟨j, hj⟩ : ∃ j : Nat, (z % 18446744073709551616) % (m : Int) = j := ⟨((z % 18446744073709551616) % (m : Int)).toNat, by omega⟩
  refine ⟨j, by omega, ?_⟩
  rw [hj]
  unfold wrap64
  omega
/-- What holds between two rounds. -/
structure SpI (n : Nat) (w wr : World) (vo : Value) (os lf : List Int) (lb cap : Nat) : Prop where
  o : wr.ownsRow w.heap.size 3 1 vo os.length (os.map (Value.int .i64))
  b : lb < wr.heap.size
  c : ∀ j u, (lf.map (Value.int .i64))[j]? = some u → wr.cell? ⟨lb, j, none⟩ = some u
  k : lf.length ≤ cap ∧ cap ≤ maxLen
  d : vo.ownBlock ≠ some lb
  nn : w.heap.size ≤ lb
  p : (os ++ lf).Perm (natL n)
  x : Ext w wr
set_option maxHeartbeats 4000000 in
theorem spun_any (v : Value) (ls : List Int) (n : Nat) (w : World) (h : Ints .i64 w v ls) (hn : n ≤ 1000) : Calls Try.prog 48 #[v, .int .i64 n] w fun e w' => ∃ u zs, e = .returned u ∧ Ints .i64 w' u zs ∧ zs.length = n ∧ onceB zs n = true ∧ (∀ b, u.ownBlock = some b → w.heap.size ≤ b) ∧ Ext w w' := by
  obtain ⟨i0, hi, hz0, hz1, hz2⟩ := info_parts info_intO
  have HI := Lib.hid h
  obtain ⟨⟨_, av, cap0, rfl, hlk, hck, _⟩, _⟩ := h
  have i1 : (ls.length : Int) ≤ 9223372036854775807 := by unfold maxLen at hck; omega
  clear hlk hck
  have i2 : (n : Int) ≤ 1000 := by omega
  have m1 : ∀ w : World, (Instr.makeSlice 89 (.int .i64 (n : Int)) (.int .i64 (n : Int))).run Try.prog w = .ok (.slice (some ⟨w.heap.size, 0, none⟩) n n) (w.alloc (.cells (madeCells #[.int .i64 0] n) 3)) := fun w => run_make_row' _ _ _ 8 Try.underlying89 info_intO rfl _ _ n (by omega) (by omega) w
  go_enter Try.func48, Try.ntmps48
  go_upto_region 3 with fail
  rw [idC_zero]
  obtain ⟨w1, hw1, hm1, hx1⟩ : ∃ w1, w.alloc (.cells (idC n 0).toArray 3) = w1 ∧ w1.heap[w.heap.size]? = some (.cells (idC n 0).toArray 3 (0, 0)) ∧ Ext w w1 := ⟨_, rfl, heap_alloc_new _ _, (Ext.refl _).alloc _⟩
  rw [hw1]
  obtain ⟨mb, hmb⟩ : ∃ mb, w.heap.size = mb := ⟨_, rfl⟩
  have HMB := Lib.hid hmb
  rw [hmb] at hm1
  rw [hmb]
  have HX1 := Lib.hid hx1
  have HM1 := Lib.hid hm1
  clear hw1 hm1 hx1 hmb m1
  go_wp2_with fail
  go_loopw [14] (fun i wr => ∃ k : Nat, k ≤ n ∧ i = .int .i64 k ∧ Hid (wr.heap[mb]? = some (.cells (idC n k).toArray 3 (0, 0)) ∧ Chg [mb] w1 wr)) (fun i _ => n - (intOf i).toNat)
  case atStart => exact ⟨0, Nat.zero_le _, rfl, Lib.hid ⟨HM1.out, Chg.refl _ _⟩⟩
  case round =>
    rename World => wr
    obtain ⟨k, hk, rfl, HR⟩ := hrel
    by_cases hlt : k < n
    · have hki : (k : Int) < (n : Int) := by omega
      have em : wr.cell? ⟨mb, k, none⟩ = some (.int .i64 0) := cell_of_heap HR.out.1 (by rw [List.getElem?_toArray]; unfold idC; rw [List.getElem?_map, List.getElem?_range hlt]; simp)
      have fm : wr.frozen? ⟨mb, k, none⟩ = false := free_of_heap HR.out.1
      have nm := heap_lt HR.out.1
      have hs := heap_set (k := k) (u := .int .i64 k) HR.out.1
      rw [List.setIfInBounds_toArray, idC_set hlt] at hs
      have HS := Lib.hid hs
      have HC : Hid (Chg [mb] w1 (wr.setCell ⟨mb, k, none⟩ (.int .i64 k))) := Lib.hid (HR.out.2.setCell (p := ⟨mb, k, none⟩) (by simp) _)
      clear hs
      go_wp2_with fail
      go_roundw
      case rel => exact ⟨k + 1, by omega, by go_num, Lib.hid ⟨HS.out, HC.out⟩⟩
      case measure => simp [intOf]; omega
    · obtain rfl : k = n := by omega
      have HR2 := Lib.hid HR.out.1
      rw [idC_full] at HR2
      have HXR : Hid (Ext w wr) := Lib.hid (HX1.out.chgTrans HR.out.2 (by rw [HMB.out]; simp))
      go_wp2_with fail
      have hln : (natL k).length = k := by simp [natL]
      go_loopw [5, 6, 8] (fun o l i wq => ∃ (os lf : List Int) (lb cap : Nat), l = .slice (some ⟨lb, 0, none⟩) lf.length cap ∧ i = .int .i64 os.length ∧ Hid (SpI k w wq o os lf lb cap)) (fun _ _ i _ => k - (intOf i).toNat)
      case atStart => exact ⟨[], natL k, mb, k, by rw [hln], rfl, Lib.hid ⟨World.ownsRow_nil _ _ _ _, heap_lt HR2.out, fun j u hu => by
          have := cell_of_heap (o := j) (v := u) HR2.out (by rw [List.getElem?_toArray]; exact hu)
          exact this, by rw [hln]; unfold maxLen; omega, by simp [Value.ownBlock], by rw [HMB.out]; exact Nat.le_refl _, List.Perm.refl _, HXR.out⟩⟩
      case round =>
        rename World => wq
        obtain ⟨os, lf, lb, cap, rfl, rfl, HI2⟩ := hrel
        have hsum : os.length + lf.length = k := by
          have := HI2.out.p.length_eq
          rw [List.length_append, hln] at this
          exact this
        have hcap := HI2.out.k
        unfold maxLen at hcap
        by_cases hne : lf.length = 0
        · obtain rfl : lf = [] := List.eq_nil_of_length_eq_zero hne
          obtain ⟨ao, co, rfl⟩ := ownsB_slice HI2.out.o
          go_wp2_with fail
          go_ret
          have hp := HI2.out.p
          rw [List.append_nil] at hp
          obtain ⟨h1, h2⟩ := natL_once hp
          exact ⟨_, os, rfl, ⟨by have := SlC.owned HI2.out.o; exact this, fun z hz => by have := natL_mem (hp.mem_iff.1 hz); exact i64_wf (by omega) (by omega)⟩, h2, h1, fun b hb => owns_base HI2.out.o b hb, HI2.out.x⟩
        · have hpos : (0 : Int) < (lf.length : Int) := by omega
          go_upto_if 30 with fail
          go_cut [9] (fun x wc => (∃ j : Nat, j < lf.length ∧ x = .int .i64 j) ∧ wq = wc)
          case first =>
            by_cases hos : os.length < ls.length
            · have hoi : (os.length : Int) < (ls.length : Int) := by omega
              obtain ⟨b, off, rfl, hb, hcell⟩ := (HI.out.ext HI2.out.x).pos (by omega)
              have ek := hcell os.length hos
              obtain ⟨z, hz⟩ : ∃ z, ls.getD os.length 0 = z := ⟨_, rfl⟩
              rw [hz] at ek
              clear hcell hz
              go_wp2_with fail
              go_meet
              obtain ⟨j, hj, e⟩ := rem_ok z lf.length (by omega) (by omega)
              exact ⟨⟨j, hj, by rw [e]⟩, rfl⟩
            · have hoi : ¬ (os.length : Int) < (ls.length : Int) := by omega
              go_wp2_with fail
              go_meet
              exact ⟨⟨0, by omega, rfl⟩, rfl⟩
          case rest =>
            obtain ⟨⟨j, hj, rfl⟩, rfl⟩ := hcut
            have hji : (j : Int) < (lf.length : Int) := by omega
            obtain ⟨y, hy⟩ : ∃ y, lf[j]? = some y := ⟨_, List.getElem?_eq_getElem hj⟩
            have cy : wq.cell? ⟨lb, j, none⟩ = some (.int .i64 y) := HI2.out.c j _ (by rw [List.getElem?_map, hy]; rfl)
            have HPM := Lib.hid (perm_out HI2.out.p hy)
            have nlb := HI2.out.b
            clear hy
            go_upto_region 15 with (at_builtin; (refine wpList_append_lies _ rfl _ _ 89 rfl w.heap.size 3 i0 (.int .i64 0) 1 8 Try.underlying89 hi hz0 hz1 hz2 rfl (by decide) _ _ _ rfl (HI2.out.o.alloc _) ⟨wq.heap.size, 0, none⟩ 1 1 [.int .i64 y] rfl rfl (cell_one_new _ _ _) (by intro u hu; simp at hu; subst hu; rfl) (by decide) (by unfold maxLen; omega) (by omega) (by have := HI2.out.x.size; simp; omega) _ rfl ?_; intro g1 c1 w2 hown2 hgrow2 hat2 hlt2))
            have hL2 : ∀ i u, (lf.map (Value.int .i64))[i]? = some u → w2.cell? ⟨lb, i, none⟩ = some u := fun i u hu => by
              refine (World.cell?_of_block (hgrow2.block lb (by simp; omega) (fun e => HI2.out.d e.symm))).trans ?_
              exact ((Ext.refl wq).alloc _).cell (HI2.out.c i u hu)
            have hx2 : Ext w w2 := (HI2.out.x.alloc _).grown hgrow2 (fun k hk => owns_base HI2.out.o k hk)
            have hne2 : g1 ≠ lb := fun e => by
              subst e
              rcases hat2 with h | h
              · exact HI2.out.d h
              · simp at h; omega
            have nlb2 : lb < w2.heap.size := by have := hgrow2.size; simp at this; omega
            have HO2 := Lib.hid hown2
            have HL2 := Lib.hid hL2
            have HX2 := Lib.hid hx2
            have HN2 := Lib.hid hne2
            have HA2 := Lib.hid (And.intro nlb2 hlt2)
            clear hown2 hgrow2 hat2 hL2 hx2 hne2 cy hlt2
            have hjc : j ≤ cap := by omega
            have hlc : lf.length ≤ cap := hcap.1
            obtain ⟨J, hJ⟩ : ∃ J : Nat, j + 1 = J := ⟨_, rfl⟩
            have hwr : IntKind.i64.wrap ((j : Int) + 1) = (J : Int) := by rw [IntWalk.i64_in _ (by omega)]; omega
            have hJ0 : (0 : Int) ≤ (J : Int) := by omega
            have hJ1 : (J : Int) ≤ (lf.length : Int) := by omega
            have hJ2 : J ≤ lf.length := by omega
            by_cases hlm : lf.length = J
            · have HLN : Hid ((lf.take j ++ lf.drop (j + 1)).length = j) := Lib.hid (by rw [List.length_append, List.length_take, List.length_drop]; omega)
              have HAB : Hid (∀ W', Ext w2 W' → SpI k w W' (.slice (some ⟨g1, 0, none⟩) (os.length + 1) c1) (os ++ [y]) (lf.take j ++ lf.drop (j + 1)) lb j) := Lib.hid (fun W' x' => ⟨by
                  have h := owns_ext HO2.out x'
                  rw [List.length_append, List.map_append]
                  exact h, Nat.lt_of_lt_of_le HA2.out.1 x'.size, fun i u hu => x'.cell (HL2.out i u (by
                  rw [List.drop_eq_nil_of_le (by omega), List.append_nil] at hu
                  rw [List.map_take, List.getElem?_take] at hu
                  split at hu
                  · exact hu
                  · cases hu)), by rw [HLN.out]; exact ⟨Nat.le_refl _, by unfold maxLen; omega⟩, by simp only [Value.ownBlock, ne_eq, Option.some.injEq]; exact HN2.out, HI2.out.nn, HPM.out, HX2.out.trans x'⟩)
              have HLJ := Lib.hid hlm
              obtain rfl : J = lf.length := hlm.symm
              clear hlm
              have hjl : j ≤ lf.length := by omega
              refine wp_region_noPanic ?_
              by_cases hcm : cap = lf.length
              · subst hcm
                go_region_law (refine step_append_room rfl _ _ 89 rfl 3 i0 1 Try.underlying89 hi hz1 lb 0 j j (by simp [Act.eval, Act.put]) ⟨lb, 0, none⟩ 0 0 [] (by simp [Act.eval, Act.put]) (by simp) (by simp) (by simp) (by omega) (by simp) ?_; rw [Nat.add_zero, show ∀ (W : World) b o, W.setCells b o [] = W from fun _ _ _ => rfl])
                all_goals refine NoPanic.normal ?_
                all_goals
                  go_wp2_with fail
                  go_roundw
                  case rel => exact ⟨os ++ [y], lf.take j ++ lf.drop (j + 1), lb, j, by rw [HLN.out], by first | done | (simp; done) | rfl | go_num, Lib.hid (HAB.out _ (by repeat first | exact Ext.refl _ | refine Ext.drew ?_))⟩
                  case measure => simp [intOf]; omega
              · go_region_law (refine step_append_room rfl _ _ 89 rfl 3 i0 1 Try.underlying89 hi hz1 lb 0 j j (by simp [Act.eval, Act.put]) ⟨lb, lf.length, none⟩ 0 (cap - lf.length) [] (by simp [Act.eval, Act.put], hcm) (by simp) (by simp) (by simp) (by omega) (by simp) ?_; rw [Nat.add_zero, show ∀ (W : World) b o, W.setCells b o [] = W from fun _ _ _ => rfl])
                all_goals refine NoPanic.normal ?_
                all_goals
                  go_wp2_with fail
                  go_roundw
                  case rel => exact ⟨os ++ [y], lf.take j ++ lf.drop (j + 1), lb, j, by rw [HLN.out], by first | done | (simp; done) | rfl | go_num, Lib.hid (HAB.out _ (by repeat first | exact Ext.refl _ | refine Ext.drew ?_))⟩
                  case measure => simp [intOf]; omega
            · have hcm : ¬ cap = J := by omega
              have hlj : J < lf.length := by omega
              have HTK : Hid (((lf.take j).map (Value.int .i64)).length = j * 1) := Lib.hid (by rw [List.length_map, List.length_take]; omega)
              have HDR : Hid (((lf.drop (j + 1)).map (Value.int .i64)).length = (lf.length - J) * 1) := Lib.hid (by rw [List.length_map, List.length_drop]; omega)
              have HLN : Hid ((lf.take j ++ lf.drop (j + 1)).length = j + (lf.length - J)) := Lib.hid (by rw [List.length_append, List.length_take, List.length_drop]; omega)
              have HT1 : Hid (∀ i u, ((lf.take j).map (Value.int .i64))[i]? = some u → w2.cell? ((⟨lb, 0, none⟩ : Addr).add i) = some u) := Lib.hid (fun i u hu => by
                rw [Addr.add_lit, Nat.zero_add]
                refine HL2.out i u ?_
                rw [List.map_take, List.getElem?_take] at hu
                split at hu
                · exact hu
                · cases hu)
              have HT2 : Hid (∀ i u, ((lf.drop (j + 1)).map (Value.int .i64))[i]? = some u → w2.cell? ((⟨lb, J, none⟩ : Addr).add i) = some u) := Lib.hid (fun i u hu => by
                rw [Addr.add_lit]
                refine HL2.out (J + i) u ?_
                rw [List.map_drop, List.getElem?_drop, hJ] at hu
                exact hu)
              refine wp_region_noPanic ?_
              go_region_law (refine step_append_grows rfl _ _ 89 rfl 3 i0 (.int .i64 0) 1 8 Try.underlying89 hi hz0 hz1 hz2 rfl (by decide) ⟨lb, 0, none⟩ j j ((lf.take j).map (Value.int .i64)) (by simp [Act.eval, Act.put]) HTK.out (fun i u hu => HT1.out i u hu) ⟨lb, J, none⟩ (lf.length - J) (cap - J) ((lf.drop (j + 1)).map (Value.int .i64)) (by simp [Act.eval, Act.put]) HDR.out (fun i u hu => HT2.out i u hu) (by omega) (by unfold maxLen; omega) (by omega) ?_; intro v' w3 hown3 hgrow3; obtain ⟨g3, cap3, tl3, rfl, hgb3, hgh3, hgl3, hgm3⟩ := owns_tail hown3 (by omega); have hx3 : Ext w2 w3 := (by refine Ext.grown ?_ hgrow3 (by simp); repeat first | exact Ext.refl _ | refine Ext.drew ?_); have hgb4 : w2.heap.size ≤ g3 := hgb3; clear hown3 hgrow3 hgb3)
              all_goals refine NoPanic.normal ?_
              all_goals
                have HX3 := Lib.hid hx3
                have HG3 := Lib.hid hgh3
                have HR3 := Lib.hid (And.intro hgb4 (And.intro hgl3 hgm3))
                clear hx3 hgh3 hgb4 hgl3 hgm3
                go_wp2_with fail
                go_roundw
                case rel => exact ⟨os ++ [y], lf.take j ++ lf.drop (j + 1), g3, cap3, by rw [HLN.out], by first | done | (simp; done) | rfl | go_num, Lib.hid (by
                  have h := owns_ext HO2.out HX3.out
                  have hg2 := HR3.out
                  have ha2 := HA2.out
                  have hx := HX2.out.size
                  refine ⟨by rw [List.length_append, List.map_append]; exact h, heap_lt HG3.out, fun i u hu => ?_, by rw [HLN.out]; omega, by simp only [Value.ownBlock, ne_eq, Option.some.injEq]; omega, by omega, HPM.out, HX2.out.trans HX3.out⟩
                  refine cell_of_heap HG3.out ?_
                  rw [List.getElem?_toArray, List.getElem?_append_left (by
                    have := (List.getElem?_eq_some_iff.1 hu).1
                    rw [List.length_map, List.length_append] at this
                    rw [List.length_append, List.length_map, List.length_map]
                    exact this), ← List.map_append]
                  exact hu)⟩
                case measure => simp [intOf]; omega
end Go.Proofs.Ytgdcdkajicgliaa
