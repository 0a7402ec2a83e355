/- What fetch.prims' function value tells. Conditions: each theorem's own premises. -/
import Derived.Test.YtgbcngmciabpkaaFet9
import Derived.Laws.IdiomCopy
import Derived.Deep.CutBlock
namespace Go.Proofs.Ytgbcngmciabpkaa
open Go.RowKit Go.ChangeShapes
set_option linter.unusedVariables false
attribute [local go_sem] Oper.semAt_some

def prB (l : List Int) (i sz : Nat) : List Int := (l.drop i).take sz ++ List.replicate (3 - sz) 0
def prV (m : Int) (l : List Int) (i : Nat) : List Int :=
  if m = 5 ∧ i % 2 = 1 then [(prB l i (szR m)).getD 1 0, (prB l i (szR m)).getD 0 0, (prB l i (szR m)).getD 2 0] else if m = 6 then [l.getD 0 0, (prB l i (szR m)).getD 1 0, (prB l i (szR m)).getD 2 0] else prB l i (szR m)
/-- A primitive's cells. -/
def prC (m : Int) (l : List Int) (i : Nat) : List Value := Value.int .i64 (szR m : Nat) :: (prV m l i).map (Value.int .i64)
def prN (m : Int) (len : Nat) : Nat := if len < szR m then 0 else (len - szR m) / spR m + 1
theorem sz_in (m : Int) : 1 ≤ szR m ∧ szR m ≤ 3 := by unfold szR; split; decide; split <;> decide
theorem sp_in (m : Int) : 1 ≤ spR m ∧ spR m ≤ 3 := by unfold spR; split; decide; split <;> decide
theorem prN_iff (m : Int) (len k : Nat) : k < prN m len ↔ k * spR m + szR m ≤ len := by
  have h1 := sp_in m
  unfold prN
  split
  · constructor
    · intro h; omega
    · intro h; have : 0 ≤ k * spR m := Nat.zero_le _; omega
  · rw [Nat.lt_succ_iff, Nat.le_div_iff_mul_le (by omega)]
    omega
theorem prN_bd (m : Int) (len k : Nat) (hk : k ≤ prN m len) : k * spR m ≤ len + 3 := by
  have h1 := sp_in m
  cases k with
  | zero => omega
  | succ k =>
    have := (prN_iff m len k).1 (by omega)
    rw [Nat.succ_mul]
    omega
theorem prB_three {l : List Int} {i sz : Nat} (h1 : sz ≤ 3) (h2 : i + sz ≤ l.length) : ∃ x y z, prB l i sz = [x, y, z] := by
  have hl : (prB l i sz).length = 3 := by unfold prB; rw [List.length_append, List.length_take, List.length_drop, List.length_replicate]; omega
  generalize prB l i sz = L at hl
  match L, hl with
  | [x, y, z], _ => exact ⟨x, y, z, rfl⟩

theorem i64_and1 (n : Int) : bits .and .i64 n 1 = n % 2 := by
  have h1 : (BitVec.ofInt 64 1).toNat = 2 ^ 1 - 1 := by decide
  have key : (BitVec.ofInt 64 n &&& BitVec.ofInt 64 1).toNat = (n % ((2 ^ 64 : Nat) : Int)).toNat % 2 ^ 1 := by
    rw [BitVec.toNat_and, BitVec.toNat_ofInt, h1, Nat.and_two_pow_sub_one_eq_mod]
  show IntKind.i64.wrap ((BitVec.ofInt 64 n &&& BitVec.ofInt 64 1).toNat : Nat) = n % 2
  rw [key, IntKind.wrap_i64]
  omega
theorem prC_swap {l : List Int} {I : Nat} {x y z : Int} (h : prB l I (szR 5) = [x, y, z]) (ho : I % 2 = 1) : prC 5 l I = [.int .i64 (szR 5 : Nat), .int .i64 y, .int .i64 x, .int .i64 z] := by
  unfold prC prV
  rw [if_pos ⟨rfl, ho⟩, h]
  rfl
theorem prC_fan {l : List Int} {I : Nat} {x y z : Int} (h : prB l I (szR 6) = [x, y, z]) : prC 6 l I = [.int .i64 (szR 6 : Nat), .int .i64 (l.getD 0 0), .int .i64 y, .int .i64 z] := by
  unfold prC prV
  rw [if_neg (by simp), if_pos rfl, h]
  rfl
theorem prC_else {m : Int} {l : List Int} {I : Nat} {x y z : Int} (h : prB l I (szR m) = [x, y, z]) (ho : ¬ (m = 5 ∧ I % 2 = 1)) (h6 : m ≠ 6) : prC m l I = [.int .i64 (szR m : Nat), .int .i64 x, .int .i64 y, .int .i64 z] := by
  unfold prC prV
  rw [if_neg ho, if_neg h6, h]
  rfl
theorem prC_len {m : Int} {l : List Int} {I S : Nat} {x y z : Int} (h : prB l I S = [x, y, z]) (hS : szR m = S) : (prC m l I).length = 4 := by
  subst hS
  unfold prC prV
  rw [h]
  split
  · rfl
  · split <;> rfl
/-- What the function value reads between two rounds. -/
def prS (n : Nat) (lv : Value) (len k : Nat) : Prop := (n ≤ k ∧ k ≤ n + 3) ∨ (lv.ownBlock = some k ∧ 0 < len)
theorem PrAt.kept {w w' : World} {n len : Nat} {m : Int} {lv v2 : Value} (h : PrAt w n m lv) (k : Kept (prS n v2 len) w w') : PrAt w' n m lv :=
  ⟨k.heap (.inl ⟨by omega, by omega⟩) h.mode, k.heap (.inl ⟨by omega, by omega⟩) h.list, k.heap (.inl ⟨by omega, by omega⟩) h.size, k.heap (.inl ⟨by omega, by omega⟩) h.step⟩
theorem Ld_Pr (v : Value) : Instr.loadAt 51 v = @Classical.epsilon _ neF (LdF 51 v) := LdF_eq _ _
attribute [local go_sem ↓] Ld_Pr
set_option maxHeartbeats 4000000 in
set_option maxRecDepth 100000 in
theorem prims_tells (n : Nat) (m : Int) (hm1 : 0 ≤ m) (hm2 : m ≤ 6) (lv : Value) (l : List Int) (w : World) (h : PrAt w n m lv) (hl : Ints .i64 w lv l) (hlen : l.length ≤ 100000) :
    Tells Try.prog 49 #[.pointer (some ⟨n + 1 + 1, 0, none⟩), .pointer (some ⟨n + 1, 0, none⟩), .pointer (some ⟨n + 1 + 1 + 1, 0, none⟩), .pointer (some ⟨n, 0, none⟩)] (prN m l.length) (prS n lv l.length) (fun k args _ => args = #[.agg (prC m l (k * spR m)).toArray]) w := by
  intro lp J Jx W hW hJ hJx hY h0
  have HPR := Lib.hid h
  have HPV := Lib.hid h
  have HL := Lib.hid hl
  have HW := Lib.hid hW
  obtain ⟨⟨_, a, cap, rfl, hc1, hc2, _, _⟩, _⟩ := hl
  have hsz := sz_in m
  have hsp := sp_in m
  have HN := Lib.hid (prN_iff m l.length)
  have hsp0 := sp_in m
  have hsp1 := hsp0.1
  have hsp2 := hsp0.2
  clear hsp0
  clear h hW
  refine callsIn_of_wp Try.func49 rfl trivial ?_ rfl
  refine (wpIn_wide (n := 8)).2 ?_
  simp only [Try.ntmps49, List.size_toArray, List.length_cons, List.length_nil, Nat.reduceAdd, Nat.reduceSub, Array.replicate_succ, Array.replicate_zero, List.push_toArray, List.append_toArray, List.nil_append, List.cons_append]
  go_wp2
  go_step3
  go_wp2
  go_step3
  go_wp2
  go_loopw [6] (fun i wr => ∃ k : Nat, k ≤ prN m l.length ∧ i = .int .i64 (k * spR m : Nat) ∧ J k wr ∧ Kept (prS n (.slice a l.length cap) l.length) w wr) (fun i _ => (l.length + 1 - (intOf i).toNat))
  case atStart => exact ⟨0, Nat.zero_le _, by rw [Nat.zero_mul]; rfl, h0, Ext.kept (show Ext w W from HW.out)⟩
  case round =>
    obtain ⟨k, hk, rfl, hj, hx⟩ := hrel
    have hpr := HPR.out.kept hx
    have hll := HL.out.kept hx (fun b hb h0 => .inr ⟨hb, h0⟩)
    have HPW := Lib.hid hpr
    have HLW := Lib.hid hll
    have e1 : wr.cell? ⟨n + 1 + 1, 0, none⟩ = some (.int .i64 (szR m : Nat)) := cell_of_heap hpr.size rfl
    have e2 : wr.cell? ⟨n + 1, 0, none⟩ = some (.slice a l.length cap) := cell_of_heap hpr.list rfl
    have e3 : wr.cell? ⟨n + 1 + 1 + 1, 0, none⟩ = some (.int .i64 (spR m : Nat)) := cell_of_heap hpr.step rfl
    have e4 : wr.cell? ⟨n, 0, none⟩ = some (.int .i64 m) := cell_of_heap hpr.mode rfl
    have n4 := heap_lt hpr.step
    have hkn := HN.out k
    have hib := prN_bd m l.length k hk
    by_cases hlt : k < prN m l.length
    · have hle := hkn.1 hlt
      clear hkn
      obtain ⟨x, y, z, hxyz⟩ := prB_three (l := l) (i := k * spR m) (sz := szR m) (by omega) hle
      obtain ⟨I, hI⟩ : ∃ I, k * spR m = I := ⟨_, rfl⟩
      have HI := Lib.hid hI
      rw [hI] at hle hib hxyz ⊢
      have HXYZ := Lib.hid hxyz
      clear hI hxyz
      obtain ⟨cs, hcs⟩ : ∃ cs, (l.drop I).take (szR m) = cs := ⟨_, rfl⟩
      have hcl : cs.length = szR m := by rw [← hcs, List.length_take, List.length_drop]; omega
      obtain ⟨b, off, rfl, hbl, hcell⟩ := hll.pos (by omega)
      have HCELL := Lib.hid hcell
      obtain ⟨w5, hw5, h5, hx5⟩ : ∃ w5, wr.alloc (.cells #[.int .i64 (szR m : Nat), .int .i64 0, .int .i64 0, .int .i64 0] 51) = w5 ∧ w5.heap[wr.heap.size]? = some (.cells #[.int .i64 (szR m : Nat), .int .i64 0, .int .i64 0, .int .i64 0] 51 (0, 0)) ∧ Ext wr w5 := ⟨_, rfl, heap_alloc_new _ _, (Ext.refl _).alloc _⟩
      have HW5 := Lib.hid hw5
      have H5 := Lib.hid h5
      have HX5 := Lib.hid hx5
      clear hw5 h5 hx5 hcell
      have hS1 := hsz.1
      have hS2 := hsz.2
      have HJJ := Lib.hid hj
      clear hj hsz hpr hll hsp hk
      generalize hS : szR m = S at *
      have HS := Lib.hid hS
      clear hS
      go_upto_region 4 with fail
      rw [HW5.out]
      generalize hb7 : wr.heap.size = b7 at *
      have HB7 := Lib.hid hb7
      clear hb7 HW5
      have hxd := Lib.hid (HX5.out.trans (Ext.refl _).drew)
      have e1 := hxd.out.cell e1
      have e2 := hxd.out.cell e2
      have e4 := hxd.out.cell e4
      have s1 : IntKind.i64.wrap ((I : Int) + (S : Int)) = ((I + S : Nat) : Int) := by rw [IntWalk.i64_in _ (by omega)]; omega
      have s2 : (((I + S : Nat) : Int)).toNat = I + S := rfl
      have s3 : ((I : Nat) : Int).toNat = I := rfl
      have s4 : (0 : Int) ≤ (I : Int) := by omega
      have s5 : ((I + S : Nat) : Int) ≤ (cap : Int) := by omega
      have s6 : (I : Int) ≤ ((I + S : Nat) : Int) := by omega
      have s7 : ¬ cap = I := by omega
      have s8 : I + S - I = S := by omega
      obtain ⟨w6, hcp, h6, hc6⟩ : ∃ w6, (Builtin.copy_ #[43, 43] 3 #[Value.slice (some ⟨b7, 1, none⟩) 3 3, Value.slice (some ⟨b, off + I, none⟩) S (cap - I)]).run Try.prog w5.drew = .ok (goInt (S : Nat)) w6 ∧ w6.heap[b7]? = some (.cells (Value.int .i64 (S : Nat) :: [x, y, z].map (Value.int .i64)).toArray 51 (0, 0)) ∧ Chg [b7] w5.drew w6 := by
        have h5d : w5.drew.heap[b7]? = some (.cells [Value.int .i64 (S : Nat), .int .i64 0, .int .i64 0, .int .i64 0].toArray 51 (0, 0)) := H5.out
        have hrun := run_copy_cells (P := Try.prog) w5.drew 43 43 3 3 b7 1 3 3 ⟨b, off + I, none⟩ S (cap - I) (cs.map (Value.int .i64)) Try.underlying43 (by kernel_rfl) (by rw [List.length_map, hcl]; exact (Nat.min_eq_left hS2).symm)
          (fun j v hv => by
            rw [← hcs, List.getElem?_map, List.getElem?_take] at hv
            split at hv
            · rw [List.getElem?_drop] at hv
              have hj : I + j < l.length := by omega
              rw [List.getElem?_eq_getElem hj] at hv
              have hc := hxd.out.cell (HCELL.out (I + j) hj)
              rw [List.getD_eq_getElem?_getD, List.getElem?_eq_getElem hj] at hc
              rw [Addr.add_lit, Nat.add_assoc, hc]
              simpa using hv
            · cases hv)
          (fun j hj => by
            rw [List.length_map, hcl] at hj
            rw [cell_of_heap h5d (v := [Value.int .i64 (S : Nat), .int .i64 0, .int .i64 0, .int .i64 0][1 + j]'(by simp; omega)) (by simp)]
            rfl) (fun j hj => free_of_heap h5d) (by simp [Value.oneCell'])
        rw [List.length_map, hcl] at hrun
        refine ⟨_, hrun, ?_, chg_setCells (by simp) _ _ _ (Chg.refl _ _)⟩
        rw [heap_setCells _ 1 _ _ h5d (by rw [List.length_map, hcl]; simp; omega)]
        have hx3 := HXYZ.out
        unfold prB at hx3
        rw [hcs] at hx3
        rw [List.length_map, hcl, ← hx3]
        have hS3 : S = 1 ∨ S = 2 ∨ S = 3 := by omega
        rcases hS3 with rfl | rfl | rfl <;> simp
      have H6 := Lib.hid h6
      have HX6 := Lib.hid (Ext.chgTrans (HX5.out.trans (Ext.refl _).drew) hc6 (by simp; rw [HB7.out]; exact Nat.le_refl _))
      clear h6 hc6
      go_cut [] (fun wc => w6 = wc)
      case first =>
        go_region_with fail
        all_goals (go_wp2_with fail; go_meet)
        all_goals rfl
      case rest =>
        obtain rfl := hcut
        have HP6 := Lib.hid (HPW.out.ext HX6.out)
        have HL6 := Lib.hid (HLW.out.ext HX6.out)
        clear hcp e1 e2 e3 e4 s1 s2 s3 s4 s5 s6 s7 s8 HCELL hcl hcs HX5 H5 n4 hxd hbl
        have e4 : w6.cell? ⟨n, 0, none⟩ = some (.int .i64 m) := cell_of_heap HP6.out.mode rfl
        have n4 := heap_lt HP6.out.step
        have n7 := heap_lt H6.out
        go_upto_block 2 with fail
        go_cut [] (fun wc => wc.heap[b7]? = some (.cells (prC m l I).toArray 51 (0, 0)) ∧ Ext wr wc)
        case first =>
          have q0 : w6.cell? ⟨b7, 1, none⟩ = some (.int .i64 x) := cell_of_heap H6.out rfl
          have q1 : w6.cell? ⟨b7, 2, none⟩ = some (.int .i64 y) := cell_of_heap H6.out rfl
          have f1 : w6.frozen? ⟨b7, 1, none⟩ = false := free_of_heap H6.out
          have f2 : w6.frozen? ⟨b7, 2, none⟩ = false := free_of_heap H6.out
          by_cases h5 : m = 5
          · subst h5
            by_cases ho : I % 2 = 1
            · have hbit : bits BinOp.and IntKind.i64 (I : Int) 1 = 1 := by rw [i64_and1]; omega
              have h61 := heap_set (k := 1) (u := .int .i64 y) H6.out
              have h62 := heap_set (k := 2) (u := .int .i64 x) h61
              have q2 : (w6.setCell ⟨b7, 1, none⟩ (.int .i64 y)).cell? ⟨b7, 2, none⟩ = some (.int .i64 y) := cell_of_heap h61 rfl
              have f3 : (w6.setCell ⟨b7, 1, none⟩ (.int .i64 y)).frozen? ⟨b7, 2, none⟩ = false := free_of_heap h61
              have H62 := Lib.hid h62
              have HPC := Lib.hid (prC_swap (by rw [HS.out]; exact HXYZ.out) ho)
              clear h61 h62
              go_wp2_with fail
              go_meet
              exact ⟨by rw [HPC.out, HS.out]; exact H62.out, (HX6.out.setCell (by rw [HB7.out]; exact Nat.le_refl _) _).setCell (by rw [HB7.out]; exact Nat.le_refl _) _⟩
            · have hbit : bits BinOp.and IntKind.i64 (I : Int) 1 = 0 := by rw [i64_and1]; omega
              have HPC := Lib.hid (prC_else (by rw [HS.out]; exact HXYZ.out) (fun h => ho h.2) (by decide : (5 : Int) ≠ 6))
              clear ho
              go_wp2_with fail
              go_meet
              exact ⟨by rw [HPC.out, HS.out]; exact H6.out, HX6.out⟩
          · by_cases h6 : m = 6
            · subst h6
              have c0 := HL6.out.pos (by omega)
              obtain ⟨b', off', he', _, hce'⟩ := c0
              cases he'
              have q3 := hce' 0 (by omega)
              rw [Nat.add_zero] at q3
              have H62 := Lib.hid (heap_set (k := 1) (u := .int .i64 (l.getD 0 0)) H6.out)
              have HPC := Lib.hid (prC_fan (by rw [HS.out]; exact HXYZ.out))
              have e2 : w6.cell? ⟨n + 1, 0, none⟩ = some (.slice (some ⟨b, off, none⟩) l.length cap) := cell_of_heap HP6.out.list rfl
              have hl0 : (0 : Int) < (l.length : Int) := by omega
              obtain ⟨z0, hz0⟩ : ∃ z0, l.getD 0 0 = z0 := ⟨_, rfl⟩
              rw [hz0] at q3 H62 HPC
              have hbw := World.block_lt_of_cell? _ _ q3
              clear hce' h5 hz0
              go_wp2_with fail
              go_meet
              exact ⟨by rw [HPC.out, HS.out]; exact H62.out, HX6.out.setCell (by rw [HB7.out]; exact Nat.le_refl _) _⟩
            · have g5 : (m == 5) = false := by simpa using h5
              have g6 : (m == 6) = false := by simpa using h6
              have HPC := Lib.hid (prC_else (by rw [HS.out]; exact HXYZ.out) (fun h => h5 h.1) h6)
              clear h5 h6
              go_wp2_with fail
              go_meet
              exact ⟨by rw [HPC.out, HS.out]; exact H6.out, HX6.out⟩
        case rest =>
          rename World => wc
          obtain ⟨hg, hxc⟩ := hcut
          have hjc : J k wc := hJ _ _ _ HJJ.out hxc
          obtain ⟨fn, tmps, assign, body, hy, hR⟩ := hY k #[.agg (prC m l I).toArray] wc hlt hjc (by rw [HI.out])
          have hld := ldF_whole (T := 51) _ hg Try.underlying51 rfl (by rw [prC_len HXYZ.out HS.out]; kernel_rfl)
          have n7 := heap_lt hg
          have HXC := Lib.hid (hx.trans hxc.kept)
          clear hg hxc hjc hY e4 HPR HL6 HP6
          go_upto_region 9 with fail
          refine (wpIn_wide (n := 8)).1 ?_
          gi_wp2
          refine hR.mono ?_
          rintro e W3 (⟨rfl, hj3, hk3⟩ | ⟨rfl, hj3⟩)
          · have HX3 := Lib.hid (HXC.out.trans hk3)
            have e3 : W3.cell? ⟨n + 1 + 1 + 1, 0, none⟩ = some (.int .i64 (spR m : Nat)) := cell_of_heap (HPV.out.kept HX3.out).step rfl
            have n3 := heap_lt (HPV.out.kept HX3.out).step
            have HJ3 := Lib.hid hj3
            have hp1 := HN.out
            clear hk3 hj3 hR hy
            gi_wp2
            have hsm := Lib.hid (show I + spR m = (k + 1) * spR m by rw [Nat.succ_mul, HI.out])
            generalize hSP : spR m = SP at *
            have HSP := Lib.hid hSP
            clear hSP
            go_wp2_with fail
            go_roundw
            case rel => exact ⟨k + 1, by omega, by rw [HSP.out, ← hsm.out]; go_num, HJ3.out, HX3.out⟩
            case measure => simp [intOf]; omega
          · clear hR hy
            gi_wp2
            go_wp2_with fail
            simp only [Exit.noGoto]
            go_end0
            exact ⟨⟨_, rfl⟩, .inr hj3⟩
    · have hle : ¬ k * spR m + szR m ≤ l.length := fun h => hlt (hkn.2 h)
      have hkN : k = prN m l.length := by omega
      have HKN := Lib.hid hkN
      have HJ := Lib.hid hj
      clear hkn hlt hkN hj
      generalize k * spR m = i at *
      generalize szR m = S at *
      go_wp2_with fail
      simp only [Exit.noGoto]
      go_end0
      exact ⟨⟨_, rfl⟩, .inl (HKN.out ▸ HJ.out)⟩
end Go.Proofs.Ytgbcngmciabpkaa
