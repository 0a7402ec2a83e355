/- Contract of the document's Prims. Conditions: each theorem's own premises. -/
import Derived.Test.YtgbcngmciabpkaaFet15
namespace Go.Proofs.Ytgbcngmciabpkaa
open Go.RowKit Go.ChangeShapes
set_option linter.unusedVariables false

theorem prB1 {l : List Int} {i : Nat} (h : i + 1 ≤ l.length) : prB l i 1 = [l.getD i 0, 0, 0] := by
  unfold prB
  rw [List.drop_eq_getElem_cons (by omega), List.getD_eq_getElem?_getD, List.getElem?_eq_getElem (by omega)]
  rfl
theorem prB2 {l : List Int} {i : Nat} (h : i + 2 ≤ l.length) : prB l i 2 = [l.getD i 0, l.getD (i + 1) 0, 0] := by
  unfold prB
  rw [List.drop_eq_getElem_cons (by omega), List.drop_eq_getElem_cons (by omega), List.getD_eq_getElem?_getD, List.getElem?_eq_getElem (by omega), List.getD_eq_getElem?_getD, List.getElem?_eq_getElem (by omega)]
  rfl
theorem prB3 {l : List Int} {i : Nat} (h : i + 3 ≤ l.length) : prB l i 3 = [l.getD i 0, l.getD (i + 1) 0, l.getD (i + 2) 0] := by
  unfold prB
  rw [List.drop_eq_getElem_cons (by omega), List.drop_eq_getElem_cons (by omega), List.drop_eq_getElem_cons (by omega), List.getD_eq_getElem?_getD, List.getElem?_eq_getElem (by omega), List.getD_eq_getElem?_getD, List.getElem?_eq_getElem (by omega), List.getD_eq_getElem?_getD, List.getElem?_eq_getElem (by omega)]
  rfl
set_option maxHeartbeats 4000000 in
set_option maxRecDepth 100000 in
theorem rprims0 (lv : Value) (l : List Int) (w : World) (hl : Ints .i64 w lv l) (hlen : l.length ≤ 300) :
    Calls Try.prog 20 #[.int .i64 0, lv] w fun e w' => ∃ a cap, e = .returned (.tuple #[.slice a (pmLen 0 l) cap, .bool true]) ∧ SlC w' (.slice a (pmLen 0 l) cap) 4 (pmLen 0 l) (pmAll 0 l) ∧ Ext w w' := by
  obtain ⟨i0, hi, hz0, hz1, hz2⟩ := info_parts info_prim
  have HL := Lib.hid hl
  obtain ⟨⟨_, av, cap, rfl, hc1, hc2, hzz, _⟩, _⟩ := hl
  have HN := Lib.hid (prN_iff 0 l.length)
  have HLB : Hid (∀ b, (Value.slice av l.length cap).ownBlock = some b → 0 < l.length → b < w.heap.size) := Lib.hid (fun b hb h0 => HL.out.1.lt hb h0)
  go_enter Try.func20, Try.ntmps20
  go_wp2_with fail
  go_loopw [7, 21] (fun o i wr => ∃ (k : Nat) (a : Option Addr) (c : Nat), k ≤ prN 0 l.length ∧ i = .int .i64 (k * spR 0 : Nat) ∧ o = .slice a k c ∧ wr.ownsRow w.heap.size 51 4 (.slice a k c) k (pmF 0 l k) ∧ Ext w wr) (fun _ i _ => (l.length + 5 - (intOf i).toNat))
  case atStart => exact ⟨0, none, 0, Nat.zero_le _, rfl, rfl, World.ownsRow_nil _ _ _ _, Ext.refl _⟩
  case round =>
    rename World => wr
    obtain ⟨k, a, c, hk, rfl, rfl, hown, hx⟩ := hrel
    have hkn := HN.out k
    rw [show szR 0 = 1 from rfl] at hkn
    have hbd := prN_bd 0 l.length k hk
    have hpl := prN_le 0 l.length
    have HSUC := Lib.hid (pmF_succ 0 l k)
    have HSM := Lib.hid (show (k + 1) * spR 0 = k * spR 0 + 1 from Nat.succ_mul _ _)
    by_cases hlt : k < prN 0 l.length
    · have hle := hkn.1 hlt
      clear hkn
      obtain ⟨I, hI⟩ : ∃ I, k * spR 0 = I := ⟨_, rfl⟩
      rw [hI] at hle hbd HSUC HSM ⊢
      clear hI
      obtain ⟨b, off, hav, hbl, hcell⟩ := (HL.out.ext hx).pos (by omega)
      cases hav
      have q0 := hcell (I) (by omega)
      have hpc : prC 0 l I = _ := prC_else (prB1 hle) (by simp) (by decide)
      rw [hpc] at HSUC
      obtain ⟨z0, hz0⟩ : ∃ z, l.getD I 0 = z := ⟨_, rfl⟩
      rw [hz0] at q0 HSUC
      have HSUC : Hid (pmF 0 l (k + 1) = pmF 0 l k ++ [.int .i64 1, .int .i64 z0, .int .i64 0, .int .i64 0]) := HSUC
      obtain ⟨J, hJ⟩ : ∃ J, I + 1 = J := ⟨_, rfl⟩
      obtain ⟨K, hK⟩ : ∃ K, I + 2 = K := ⟨_, rfl⟩
      have s1 : IntKind.i64.wrap ((I : Int) + 1) = (J : Int) := by rw [IntWalk.i64_in _ (by omega)]; omega
      have s2 : IntKind.i64.wrap ((I : Int) + 2) = (K : Int) := by rw [IntWalk.i64_in _ (by omega)]; omega
      have s3 : IntKind.i64.wrap ((J : Int) + 1) = (K : Int) := by rw [IntWalk.i64_in _ (by omega)]; omega
      have t0 : (I : Int) < (l.length : Int) := by omega
      have l0 : 0 < l.length := by omega
      have hbb : b < w.heap.size := HLB.out b rfl (by omega)
      have HRB := Lib.hid (fun j (hj : (Value.slice a k c).ownBlock = some j) => (show j ≠ b by have := (hown.lt j hj).1; omega))
      have hm1 : k + 1 ≤ maxLen := by unfold maxLen; omega
      have hm3 : (k + 1) * 32 ≤ 140737488355328 := by omega
      have hxs := hx.size
      have hw2W : w.heap.size ≤ wr.heap.size + 1 := by omega
      have HOWN := Lib.hid hown
      have HX := Lib.hid hx
      clear hcell hpc hown hx hz0
      go_wp2_with (at_builtin; refine wpList_append_own _ rfl _ _ 44 rfl w.heap.size 51 i0 (.agg #[.int .i64 0, .int .i64 0, .int .i64 0, .int .i64 0]) 4 32 Try.underlying44 hi hz0 hz1 hz2 rfl (by decide) _ _ _ rfl (HOWN.out.alloc _) ⟨wr.heap.size, 0, none⟩ 1 1 [.int .i64 1, .int .i64 z0, .int .i64 0, .int .i64 0] rfl rfl (World.news_of_block (heap_alloc_new _ _)) one_prim hm1 hm3 (by simpa using hw2W) ?_; intro v5 w5 hown5 hgrow5 _)
      obtain ⟨a5, c5, rfl⟩ := owns_slice hown5
      have HX5 := Lib.hid ((HX.out.alloc _).grown hgrow5 (fun j hj => (HOWN.out.lt j hj).1))
      have HOWN5 := Lib.hid hown5
      clear hown5 hgrow5
      go_wp2_with fail
      go_roundw
      case rel => exact ⟨k + 1, _, _, by omega, by rw [HSM.out]; go_num, rfl, by rw [HSUC.out]; exact HOWN5.out, HX5.out⟩
      case measure => simp [intOf]; omega
    · have hle : ¬ k * spR 0 + 1 ≤ l.length := fun h => hlt (hkn.2 h)
      obtain rfl : k = prN 0 l.length := by omega
      clear hkn hlt
      generalize prN 0 l.length * spR 0 = I at *
      have hsc := SlC.owned hown
      have r1 : ¬ (I : Int) < (l.length : Int) := by omega
      have HPL := Lib.hid (show pmLen 0 l = prN 0 l.length by unfold pmLen isCl; simp)
      have HPA := Lib.hid (show pmAll 0 l = pmF 0 l (prN 0 l.length) by unfold pmAll isCl; simp)
      have HSC := Lib.hid hsc
      clear hown hsc
      go_wp2_with fail
      go_ret2
      exact ⟨a, c, by rw [HPL.out]; rfl, by rw [HPL.out, HPA.out]; exact HSC.out, hx⟩
set_option maxHeartbeats 4000000 in
set_option maxRecDepth 100000 in
theorem rprims1 (lv : Value) (l : List Int) (w : World) (hl : Ints .i64 w lv l) (hlen : l.length ≤ 300) :
    Calls Try.prog 20 #[.int .i64 1, lv] w fun e w' => ∃ a cap, e = .returned (.tuple #[.slice a (pmLen 1 l) cap, .bool true]) ∧ SlC w' (.slice a (pmLen 1 l) cap) 4 (pmLen 1 l) (pmAll 1 l) ∧ Ext w w' := by
  obtain ⟨i0, hi, hz0, hz1, hz2⟩ := info_parts info_prim
  have HL := Lib.hid hl
  obtain ⟨⟨_, av, cap, rfl, hc1, hc2, hzz, _⟩, _⟩ := hl
  have HN := Lib.hid (prN_iff 1 l.length)
  have HLB : Hid (∀ b, (Value.slice av l.length cap).ownBlock = some b → 0 < l.length → b < w.heap.size) := Lib.hid (fun b hb h0 => HL.out.1.lt hb h0)
  go_enter Try.func20, Try.ntmps20
  go_wp2_with fail
  go_loopw [7, 9] (fun o i wr => ∃ (k : Nat) (a : Option Addr) (c : Nat), k ≤ prN 1 l.length ∧ i = .int .i64 (k * spR 1 : Nat) ∧ o = .slice a k c ∧ wr.ownsRow w.heap.size 51 4 (.slice a k c) k (pmF 1 l k) ∧ Ext w wr) (fun _ i _ => (l.length + 5 - (intOf i).toNat))
  case atStart => exact ⟨0, none, 0, Nat.zero_le _, rfl, rfl, World.ownsRow_nil _ _ _ _, Ext.refl _⟩
  case round =>
    rename World => wr
    obtain ⟨k, a, c, hk, rfl, rfl, hown, hx⟩ := hrel
    have hkn := HN.out k
    rw [show szR 1 = 2 from rfl] at hkn
    have hbd := prN_bd 1 l.length k hk
    have hpl := prN_le 1 l.length
    have HSUC := Lib.hid (pmF_succ 1 l k)
    have HSM := Lib.hid (show (k + 1) * spR 1 = k * spR 1 + 2 from Nat.succ_mul _ _)
    by_cases hlt : k < prN 1 l.length
    · have hle := hkn.1 hlt
      clear hkn
      obtain ⟨I, hI⟩ : ∃ I, k * spR 1 = I := ⟨_, rfl⟩
      rw [hI] at hle hbd HSUC HSM ⊢
      clear hI
      obtain ⟨b, off, hav, hbl, hcell⟩ := (HL.out.ext hx).pos (by omega)
      cases hav
      have q0 := hcell (I) (by omega)
      have q1 := hcell (I + 1) (by omega)
      have hpc : prC 1 l I = _ := prC_else (prB2 hle) (by simp) (by decide)
      rw [hpc] at HSUC
      obtain ⟨z0, hz0⟩ : ∃ z, l.getD I 0 = z := ⟨_, rfl⟩
      rw [hz0] at q0 HSUC
      obtain ⟨z1, hz1⟩ : ∃ z, l.getD (I + 1) 0 = z := ⟨_, rfl⟩
      rw [hz1] at q1 HSUC
      have HSUC : Hid (pmF 1 l (k + 1) = pmF 1 l k ++ [.int .i64 2, .int .i64 z0, .int .i64 z1, .int .i64 0]) := HSUC
      obtain ⟨J, hJ⟩ : ∃ J, I + 1 = J := ⟨_, rfl⟩
      obtain ⟨K, hK⟩ : ∃ K, I + 2 = K := ⟨_, rfl⟩
      rw [hJ] at q1
      have s1 : IntKind.i64.wrap ((I : Int) + 1) = (J : Int) := by rw [IntWalk.i64_in _ (by omega)]; omega
      have s2 : IntKind.i64.wrap ((I : Int) + 2) = (K : Int) := by rw [IntWalk.i64_in _ (by omega)]; omega
      have s3 : IntKind.i64.wrap ((J : Int) + 1) = (K : Int) := by rw [IntWalk.i64_in _ (by omega)]; omega
      have t1 : (J : Int) < (l.length : Int) := by omega
      have t0 : (I : Int) < (l.length : Int) := by omega
      have l0 : 0 < l.length := by omega
      have hbb : b < w.heap.size := HLB.out b rfl (by omega)
      have HRB := Lib.hid (fun j (hj : (Value.slice a k c).ownBlock = some j) => (show j ≠ b by have := (hown.lt j hj).1; omega))
      have hm1 : k + 1 ≤ maxLen := by unfold maxLen; omega
      have hm3 : (k + 1) * 32 ≤ 140737488355328 := by omega
      have hxs := hx.size
      have hw2W : w.heap.size ≤ wr.heap.size + 1 := by omega
      have HOWN := Lib.hid hown
      have HX := Lib.hid hx
      clear hcell hpc hown hx hz0 hz1
      go_upto_region 15 with fail
      go_region_held3 (fun w' => w'.cell? (⟨b, off + I, none⟩ : Addr) = some (.int .i64 z0) ∧ w'.cell? (⟨b, off + J, none⟩ : Addr) = some (.int .i64 z1)) (go_keep)
        ((refine step_append_lies _ (by rfl) _ _ _ (by rfl) w.heap.size 51 i0 (.agg #[.int .i64 0, .int .i64 0, .int .i64 0, .int .i64 0]) 4 32 Try.underlying44 hi hz0 hz1 hz2 (by rfl) (by decide) _ k _ (by rfl) (ownsRow_turn (HOWN.out.alloc _) ((Ext.refl _).drew.turn 0)) ⟨wr.heap.size, 0, none⟩ 1 1 [.int .i64 2, .int .i64 z0, .int .i64 z1, .int .i64 0] (by rfl) (by rfl) (World.news_of_block (heap_alloc_new _ _)) one_prim (by decide) hm1 hm3 (by simpa using hw2W) _ rfl ?_; intro g cap2 w5 hown5 hgrow5 hat5 hlt5; have y0 := far_cell hgrow5 q0 HRB.out; have y1 := far_cell hgrow5 q1 HRB.out; have HOWN5 := Lib.hid hown5; have HG5 := Lib.hid hgrow5; clear hown5 hgrow5))
      all_goals
        have HX5 := Lib.hid (((HX.out.alloc _).drew).grown HG5.out (fun j hj => (HOWN.out.lt j hj).1))
        go_wp2_with fail
        go_roundw
        case rel => exact ⟨k + 1, _, _, by omega, by rw [HSM.out]; go_num, rfl, by rw [HSUC.out]; exact HOWN5.out, HX5.out⟩
        case measure => simp [intOf]; omega
    · have hle : ¬ k * spR 1 + 2 ≤ l.length := fun h => hlt (hkn.2 h)
      obtain rfl : k = prN 1 l.length := by omega
      clear hkn hlt
      generalize prN 1 l.length * spR 1 = I at *
      have hsc := SlC.owned hown
      obtain ⟨J, hJ⟩ : ∃ J, I + 1 = J := ⟨_, rfl⟩
      obtain ⟨K, hK⟩ : ∃ K, I + 2 = K := ⟨_, rfl⟩
      have s1 : IntKind.i64.wrap ((I : Int) + 1) = (J : Int) := by rw [IntWalk.i64_in _ (by omega)]; omega
      have s2 : IntKind.i64.wrap ((I : Int) + 2) = (K : Int) := by rw [IntWalk.i64_in _ (by omega)]; omega
      have s3 : IntKind.i64.wrap ((J : Int) + 1) = (K : Int) := by rw [IntWalk.i64_in _ (by omega)]; omega
      have r1 : ¬ (J : Int) < (l.length : Int) := by omega
      have HPL := Lib.hid (show pmLen 1 l = prN 1 l.length by unfold pmLen isCl; simp)
      have HPA := Lib.hid (show pmAll 1 l = pmF 1 l (prN 1 l.length) by unfold pmAll isCl; simp)
      have HSC := Lib.hid hsc
      clear hown hsc
      go_wp2_with fail
      go_ret2
      exact ⟨a, c, by rw [HPL.out]; rfl, by rw [HPL.out, HPA.out]; exact HSC.out, hx⟩
set_option maxHeartbeats 4000000 in
set_option maxRecDepth 100000 in
theorem rprims3 (lv : Value) (l : List Int) (w : World) (hl : Ints .i64 w lv l) (hlen : l.length ≤ 300) :
    Calls Try.prog 20 #[.int .i64 3, lv] w fun e w' => ∃ a cap, e = .returned (.tuple #[.slice a (pmLen 3 l) cap, .bool true]) ∧ SlC w' (.slice a (pmLen 3 l) cap) 4 (pmLen 3 l) (pmAll 3 l) ∧ Ext w w' := by
  obtain ⟨i0, hi, hz0, hz1, hz2⟩ := info_parts info_prim
  have HL := Lib.hid hl
  obtain ⟨⟨_, av, cap, rfl, hc1, hc2, hzz, _⟩, _⟩ := hl
  have HN := Lib.hid (prN_iff 3 l.length)
  have HLB : Hid (∀ b, (Value.slice av l.length cap).ownBlock = some b → 0 < l.length → b < w.heap.size) := Lib.hid (fun b hb h0 => HL.out.1.lt hb h0)
  go_enter Try.func20, Try.ntmps20
  go_wp2_with fail
  go_loopw [7, 10] (fun o i wr => ∃ (k : Nat) (a : Option Addr) (c : Nat), k ≤ prN 3 l.length ∧ i = .int .i64 (k * spR 3 : Nat) ∧ o = .slice a k c ∧ wr.ownsRow w.heap.size 51 4 (.slice a k c) k (pmF 3 l k) ∧ Ext w wr) (fun _ i _ => (l.length + 5 - (intOf i).toNat))
  case atStart => exact ⟨0, none, 0, Nat.zero_le _, rfl, rfl, World.ownsRow_nil _ _ _ _, Ext.refl _⟩
  case round =>
    rename World => wr
    obtain ⟨k, a, c, hk, rfl, rfl, hown, hx⟩ := hrel
    have hkn := HN.out k
    rw [show szR 3 = 2 from rfl] at hkn
    have hbd := prN_bd 3 l.length k hk
    have hpl := prN_le 3 l.length
    have HSUC := Lib.hid (pmF_succ 3 l k)
    have HSM := Lib.hid (show (k + 1) * spR 3 = k * spR 3 + 1 from Nat.succ_mul _ _)
    by_cases hlt : k < prN 3 l.length
    · have hle := hkn.1 hlt
      clear hkn
      obtain ⟨I, hI⟩ : ∃ I, k * spR 3 = I := ⟨_, rfl⟩
      rw [hI] at hle hbd HSUC HSM ⊢
      clear hI
      obtain ⟨b, off, hav, hbl, hcell⟩ := (HL.out.ext hx).pos (by omega)
      cases hav
      have q0 := hcell (I) (by omega)
      have q1 := hcell (I + 1) (by omega)
      have hpc : prC 3 l I = _ := prC_else (prB2 hle) (by simp) (by decide)
      rw [hpc] at HSUC
      obtain ⟨z0, hz0⟩ : ∃ z, l.getD I 0 = z := ⟨_, rfl⟩
      rw [hz0] at q0 HSUC
      obtain ⟨z1, hz1⟩ : ∃ z, l.getD (I + 1) 0 = z := ⟨_, rfl⟩
      rw [hz1] at q1 HSUC
      have HSUC : Hid (pmF 3 l (k + 1) = pmF 3 l k ++ [.int .i64 2, .int .i64 z0, .int .i64 z1, .int .i64 0]) := HSUC
      obtain ⟨J, hJ⟩ : ∃ J, I + 1 = J := ⟨_, rfl⟩
      obtain ⟨K, hK⟩ : ∃ K, I + 2 = K := ⟨_, rfl⟩
      rw [hJ] at q1
      have s1 : IntKind.i64.wrap ((I : Int) + 1) = (J : Int) := by rw [IntWalk.i64_in _ (by omega)]; omega
      have s2 : IntKind.i64.wrap ((I : Int) + 2) = (K : Int) := by rw [IntWalk.i64_in _ (by omega)]; omega
      have s3 : IntKind.i64.wrap ((J : Int) + 1) = (K : Int) := by rw [IntWalk.i64_in _ (by omega)]; omega
      have t1 : (J : Int) < (l.length : Int) := by omega
      have t0 : (I : Int) < (l.length : Int) := by omega
      have l0 : 0 < l.length := by omega
      have hbb : b < w.heap.size := HLB.out b rfl (by omega)
      have HRB := Lib.hid (fun j (hj : (Value.slice a k c).ownBlock = some j) => (show j ≠ b by have := (hown.lt j hj).1; omega))
      have hm1 : k + 1 ≤ maxLen := by unfold maxLen; omega
      have hm3 : (k + 1) * 32 ≤ 140737488355328 := by omega
      have hxs := hx.size
      have hw2W : w.heap.size ≤ wr.heap.size + 1 := by omega
      have HOWN := Lib.hid hown
      have HX := Lib.hid hx
      clear hcell hpc hown hx hz0 hz1
      go_upto_region 21 with fail
      go_region_held3 (fun w' => w'.cell? (⟨b, off + I, none⟩ : Addr) = some (.int .i64 z0) ∧ w'.cell? (⟨b, off + J, none⟩ : Addr) = some (.int .i64 z1)) (go_keep)
        ((refine step_append_lies _ (by rfl) _ _ _ (by rfl) w.heap.size 51 i0 (.agg #[.int .i64 0, .int .i64 0, .int .i64 0, .int .i64 0]) 4 32 Try.underlying44 hi hz0 hz1 hz2 (by rfl) (by decide) _ k _ (by rfl) (ownsRow_turn (HOWN.out.alloc _) ((Ext.refl _).drew.turn 0)) ⟨wr.heap.size, 0, none⟩ 1 1 [.int .i64 2, .int .i64 z0, .int .i64 z1, .int .i64 0] (by rfl) (by rfl) (World.news_of_block (heap_alloc_new _ _)) one_prim (by decide) hm1 hm3 (by simpa using hw2W) _ rfl ?_; intro g cap2 w5 hown5 hgrow5 hat5 hlt5; have y0 := far_cell hgrow5 q0 HRB.out; have y1 := far_cell hgrow5 q1 HRB.out; have HOWN5 := Lib.hid hown5; have HG5 := Lib.hid hgrow5; clear hown5 hgrow5))
      all_goals
        have HX5 := Lib.hid (((HX.out.alloc _).drew).grown HG5.out (fun j hj => (HOWN.out.lt j hj).1))
        go_wp2_with fail
        go_roundw
        case rel => exact ⟨k + 1, _, _, by omega, by rw [HSM.out]; go_num, rfl, by rw [HSUC.out]; exact HOWN5.out, HX5.out⟩
        case measure => simp [intOf]; omega
    · have hle : ¬ k * spR 3 + 2 ≤ l.length := fun h => hlt (hkn.2 h)
      obtain rfl : k = prN 3 l.length := by omega
      clear hkn hlt
      generalize prN 3 l.length * spR 3 = I at *
      have hsc := SlC.owned hown
      obtain ⟨J, hJ⟩ : ∃ J, I + 1 = J := ⟨_, rfl⟩
      obtain ⟨K, hK⟩ : ∃ K, I + 2 = K := ⟨_, rfl⟩
      have s1 : IntKind.i64.wrap ((I : Int) + 1) = (J : Int) := by rw [IntWalk.i64_in _ (by omega)]; omega
      have s2 : IntKind.i64.wrap ((I : Int) + 2) = (K : Int) := by rw [IntWalk.i64_in _ (by omega)]; omega
      have s3 : IntKind.i64.wrap ((J : Int) + 1) = (K : Int) := by rw [IntWalk.i64_in _ (by omega)]; omega
      have r1 : ¬ (J : Int) < (l.length : Int) := by omega
      have HPL := Lib.hid (show pmLen 3 l = prN 3 l.length by unfold pmLen isCl; simp)
      have HPA := Lib.hid (show pmAll 3 l = pmF 3 l (prN 3 l.length) by unfold pmAll isCl; simp)
      have HSC := Lib.hid hsc
      clear hown hsc
      go_wp2_with fail
      go_ret2
      exact ⟨a, c, by rw [HPL.out]; rfl, by rw [HPL.out, HPA.out]; exact HSC.out, hx⟩
set_option maxHeartbeats 4000000 in
set_option maxRecDepth 100000 in
theorem rprims4 (lv : Value) (l : List Int) (w : World) (hl : Ints .i64 w lv l) (hlen : l.length ≤ 300) :
    Calls Try.prog 20 #[.int .i64 4, lv] w fun e w' => ∃ a cap, e = .returned (.tuple #[.slice a (pmLen 4 l) cap, .bool true]) ∧ SlC w' (.slice a (pmLen 4 l) cap) 4 (pmLen 4 l) (pmAll 4 l) ∧ Ext w w' := by
  obtain ⟨i0, hi, hz0, hz1, hz2⟩ := info_parts info_prim
  have HL := Lib.hid hl
  obtain ⟨⟨_, av, cap, rfl, hc1, hc2, hzz, _⟩, _⟩ := hl
  have HN := Lib.hid (prN_iff 4 l.length)
  have HLB : Hid (∀ b, (Value.slice av l.length cap).ownBlock = some b → 0 < l.length → b < w.heap.size) := Lib.hid (fun b hb h0 => HL.out.1.lt hb h0)
  go_enter Try.func20, Try.ntmps20
  go_wp2_with fail
  go_loopw [7, 11] (fun o i wr => ∃ (k : Nat) (a : Option Addr) (c : Nat), k ≤ prN 4 l.length ∧ i = .int .i64 (k * spR 4 : Nat) ∧ o = .slice a k c ∧ wr.ownsRow w.heap.size 51 4 (.slice a k c) k (pmF 4 l k) ∧ Ext w wr) (fun _ i _ => (l.length + 5 - (intOf i).toNat))
  case atStart => exact ⟨0, none, 0, Nat.zero_le _, rfl, rfl, World.ownsRow_nil _ _ _ _, Ext.refl _⟩
  case round =>
    rename World => wr
    obtain ⟨k, a, c, hk, rfl, rfl, hown, hx⟩ := hrel
    have hkn := HN.out k
    rw [show szR 4 = 3 from rfl] at hkn
    have hbd := prN_bd 4 l.length k hk
    have hpl := prN_le 4 l.length
    have HSUC := Lib.hid (pmF_succ 4 l k)
    have HSM := Lib.hid (show (k + 1) * spR 4 = k * spR 4 + 3 from Nat.succ_mul _ _)
    by_cases hlt : k < prN 4 l.length
    · have hle := hkn.1 hlt
      clear hkn
      obtain ⟨I, hI⟩ : ∃ I, k * spR 4 = I := ⟨_, rfl⟩
      rw [hI] at hle hbd HSUC HSM ⊢
      clear hI
      obtain ⟨b, off, hav, hbl, hcell⟩ := (HL.out.ext hx).pos (by omega)
      cases hav
      have q0 := hcell (I) (by omega)
      have q1 := hcell (I + 1) (by omega)
      have q2 := hcell (I + 2) (by omega)
      have hpc : prC 4 l I = _ := prC_else (prB3 hle) (by simp) (by decide)
      rw [hpc] at HSUC
      obtain ⟨z0, hz0⟩ : ∃ z, l.getD I 0 = z := ⟨_, rfl⟩
      rw [hz0] at q0 HSUC
      obtain ⟨z1, hz1⟩ : ∃ z, l.getD (I + 1) 0 = z := ⟨_, rfl⟩
      rw [hz1] at q1 HSUC
      obtain ⟨z2, hz2⟩ : ∃ z, l.getD (I + 2) 0 = z := ⟨_, rfl⟩
      rw [hz2] at q2 HSUC
      have HSUC : Hid (pmF 4 l (k + 1) = pmF 4 l k ++ [.int .i64 3, .int .i64 z0, .int .i64 z1, .int .i64 z2]) := HSUC
      obtain ⟨J, hJ⟩ : ∃ J, I + 1 = J := ⟨_, rfl⟩
      obtain ⟨K, hK⟩ : ∃ K, I + 2 = K := ⟨_, rfl⟩
      rw [hJ] at q1
      rw [hK] at q2
      have s1 : IntKind.i64.wrap ((I : Int) + 1) = (J : Int) := by rw [IntWalk.i64_in _ (by omega)]; omega
      have s2 : IntKind.i64.wrap ((I : Int) + 2) = (K : Int) := by rw [IntWalk.i64_in _ (by omega)]; omega
      have s3 : IntKind.i64.wrap ((J : Int) + 1) = (K : Int) := by rw [IntWalk.i64_in _ (by omega)]; omega
      have t1 : (J : Int) < (l.length : Int) := by omega
      have t2 : (K : Int) < (l.length : Int) := by omega
      have t0 : (I : Int) < (l.length : Int) := by omega
      have l0 : 0 < l.length := by omega
      have hbb : b < w.heap.size := HLB.out b rfl (by omega)
      have HRB := Lib.hid (fun j (hj : (Value.slice a k c).ownBlock = some j) => (show j ≠ b by have := (hown.lt j hj).1; omega))
      have hm1 : k + 1 ≤ maxLen := by unfold maxLen; omega
      have hm3 : (k + 1) * 32 ≤ 140737488355328 := by omega
      have hxs := hx.size
      have hw2W : w.heap.size ≤ wr.heap.size + 1 := by omega
      have HOWN := Lib.hid hown
      have HX := Lib.hid hx
      clear hcell hpc hown hx hz0 hz1 hz2
      go_upto_region 28 with fail
      go_region_held3 (fun w' => w'.cell? (⟨b, off + I, none⟩ : Addr) = some (.int .i64 z0) ∧ w'.cell? (⟨b, off + J, none⟩ : Addr) = some (.int .i64 z1) ∧ w'.cell? (⟨b, off + K, none⟩ : Addr) = some (.int .i64 z2)) (go_keep)
        ((refine step_append_lies _ (by rfl) _ _ _ (by rfl) w.heap.size 51 i0 (.agg #[.int .i64 0, .int .i64 0, .int .i64 0, .int .i64 0]) 4 32 Try.underlying44 hi hz0 hz1 hz2 (by rfl) (by decide) _ k _ (by rfl) (ownsRow_turn (HOWN.out.alloc _) ((Ext.refl _).drew.turn 0)) ⟨wr.heap.size, 0, none⟩ 1 1 [.int .i64 3, .int .i64 z0, .int .i64 z1, .int .i64 z2] (by rfl) (by rfl) (World.news_of_block (heap_alloc_new _ _)) one_prim (by decide) hm1 hm3 (by simpa using hw2W) _ rfl ?_; intro g cap2 w5 hown5 hgrow5 hat5 hlt5; have y0 := far_cell hgrow5 q0 HRB.out; have y1 := far_cell hgrow5 q1 HRB.out; have y2 := far_cell hgrow5 q2 HRB.out; have HOWN5 := Lib.hid hown5; have HG5 := Lib.hid hgrow5; clear hown5 hgrow5))
      all_goals
        have HX5 := Lib.hid (((HX.out.alloc _).drew).grown HG5.out (fun j hj => (HOWN.out.lt j hj).1))
        go_wp2_with fail
        go_roundw
        case rel => exact ⟨k + 1, _, _, by omega, by rw [HSM.out]; go_num, rfl, by rw [HSUC.out]; exact HOWN5.out, HX5.out⟩
        case measure => simp [intOf]; omega
    · have hle : ¬ k * spR 4 + 3 ≤ l.length := fun h => hlt (hkn.2 h)
      obtain rfl : k = prN 4 l.length := by omega
      clear hkn hlt
      generalize prN 4 l.length * spR 4 = I at *
      have hsc := SlC.owned hown
      obtain ⟨J, hJ⟩ : ∃ J, I + 1 = J := ⟨_, rfl⟩
      obtain ⟨K, hK⟩ : ∃ K, I + 2 = K := ⟨_, rfl⟩
      have s1 : IntKind.i64.wrap ((I : Int) + 1) = (J : Int) := by rw [IntWalk.i64_in _ (by omega)]; omega
      have s2 : IntKind.i64.wrap ((I : Int) + 2) = (K : Int) := by rw [IntWalk.i64_in _ (by omega)]; omega
      have s3 : IntKind.i64.wrap ((J : Int) + 1) = (K : Int) := by rw [IntWalk.i64_in _ (by omega)]; omega
      have r1 : ¬ (K : Int) < (l.length : Int) := by omega
      have HPL := Lib.hid (show pmLen 4 l = prN 4 l.length by unfold pmLen isCl; simp)
      have HPA := Lib.hid (show pmAll 4 l = pmF 4 l (prN 4 l.length) by unfold pmAll isCl; simp)
      have HSC := Lib.hid hsc
      clear hown hsc
      go_wp2_with fail
      go_ret2
      exact ⟨a, c, by rw [HPL.out]; rfl, by rw [HPL.out, HPA.out]; exact HSC.out, hx⟩
set_option maxHeartbeats 4000000 in
set_option maxRecDepth 100000 in
theorem rprims6 (lv : Value) (l : List Int) (w : World) (hl : Ints .i64 w lv l) (hlen : l.length ≤ 300) :
    Calls Try.prog 20 #[.int .i64 6, lv] w fun e w' => ∃ a cap, e = .returned (.tuple #[.slice a (pmLen 6 l) cap, .bool true]) ∧ SlC w' (.slice a (pmLen 6 l) cap) 4 (pmLen 6 l) (pmAll 6 l) ∧ Ext w w' := by
  obtain ⟨i0, hi, hz0, hz1, hz2⟩ := info_parts info_prim
  have HL := Lib.hid hl
  obtain ⟨⟨_, av, cap, rfl, hc1, hc2, hzz, _⟩, _⟩ := hl
  have HN := Lib.hid (prN_iff 6 l.length)
  have HLB : Hid (∀ b, (Value.slice av l.length cap).ownBlock = some b → 0 < l.length → b < w.heap.size) := Lib.hid (fun b hb h0 => HL.out.1.lt hb h0)
  go_enter Try.func20, Try.ntmps20
  go_wp2_with fail
  go_loopw [7, 14] (fun o i wr => ∃ (k : Nat) (a : Option Addr) (c : Nat), k ≤ prN 6 l.length ∧ i = .int .i64 (k * spR 6 + 1 : Nat) ∧ o = .slice a k c ∧ wr.ownsRow w.heap.size 51 4 (.slice a k c) k (pmF 6 l k) ∧ Ext w wr) (fun _ i _ => (l.length + 5 - (intOf i).toNat))
  case atStart => exact ⟨0, none, 0, Nat.zero_le _, rfl, rfl, World.ownsRow_nil _ _ _ _, Ext.refl _⟩
  case round =>
    rename World => wr
    obtain ⟨k, a, c, hk, rfl, rfl, hown, hx⟩ := hrel
    have hkn := HN.out k
    rw [show szR 6 = 3 from rfl] at hkn
    have hbd := prN_bd 6 l.length k hk
    have hpl := prN_le 6 l.length
    have HSUC := Lib.hid (pmF_succ 6 l k)
    have HSM := Lib.hid (show (k + 1) * spR 6 = k * spR 6 + 1 from Nat.succ_mul _ _)
    by_cases hlt : k < prN 6 l.length
    · have hle := hkn.1 hlt
      clear hkn
      obtain ⟨I, hI⟩ : ∃ I, k * spR 6 = I := ⟨_, rfl⟩
      rw [hI] at hle hbd HSUC HSM ⊢
      clear hI
      obtain ⟨b, off, hav, hbl, hcell⟩ := (HL.out.ext hx).pos (by omega)
      cases hav
      have q0 := hcell (0) (by omega)
      have q1 := hcell (I + 1) (by omega)
      have q2 := hcell (I + 2) (by omega)
      have hpc : prC 6 l I = _ := prC_fan (prB3 hle)
      rw [hpc] at HSUC
      obtain ⟨z0, hz0⟩ : ∃ z, l.getD 0 0 = z := ⟨_, rfl⟩
      rw [hz0] at q0 HSUC
      obtain ⟨z1, hz1⟩ : ∃ z, l.getD (I + 1) 0 = z := ⟨_, rfl⟩
      rw [hz1] at q1 HSUC
      obtain ⟨z2, hz2⟩ : ∃ z, l.getD (I + 2) 0 = z := ⟨_, rfl⟩
      rw [hz2] at q2 HSUC
      rw [Nat.add_zero] at q0
      have HSUC : Hid (pmF 6 l (k + 1) = pmF 6 l k ++ [.int .i64 3, .int .i64 z0, .int .i64 z1, .int .i64 z2]) := HSUC
      obtain ⟨J, hJ⟩ : ∃ J, I + 1 = J := ⟨_, rfl⟩
      obtain ⟨K, hK⟩ : ∃ K, I + 2 = K := ⟨_, rfl⟩
      rw [hJ] at q1
      rw [hK] at q2
      rw [hJ]
      have s1 : IntKind.i64.wrap ((I : Int) + 1) = (J : Int) := by rw [IntWalk.i64_in _ (by omega)]; omega
      have s2 : IntKind.i64.wrap ((I : Int) + 2) = (K : Int) := by rw [IntWalk.i64_in _ (by omega)]; omega
      have s3 : IntKind.i64.wrap ((J : Int) + 1) = (K : Int) := by rw [IntWalk.i64_in _ (by omega)]; omega
      have t1 : (J : Int) < (l.length : Int) := by omega
      have t2 : (K : Int) < (l.length : Int) := by omega
      have t0 : (I : Int) < (l.length : Int) := by omega
      have l0 : 0 < l.length := by omega
      have hbb : b < w.heap.size := HLB.out b rfl (by omega)
      have HRB := Lib.hid (fun j (hj : (Value.slice a k c).ownBlock = some j) => (show j ≠ b by have := (hown.lt j hj).1; omega))
      have hm1 : k + 1 ≤ maxLen := by unfold maxLen; omega
      have hm3 : (k + 1) * 32 ≤ 140737488355328 := by omega
      have hxs := hx.size
      have hw2W : w.heap.size ≤ wr.heap.size + 1 := by omega
      have HOWN := Lib.hid hown
      have HX := Lib.hid hx
      clear hcell hpc hown hx hz0 hz1 hz2
      go_upto_region 41 with fail
      go_region_held3 (fun w' => w'.cell? (⟨b, off, none⟩ : Addr) = some (.int .i64 z0) ∧ w'.cell? (⟨b, off + J, none⟩ : Addr) = some (.int .i64 z1) ∧ w'.cell? (⟨b, off + K, none⟩ : Addr) = some (.int .i64 z2)) (go_keep)
        ((refine step_append_lies _ (by rfl) _ _ _ (by rfl) w.heap.size 51 i0 (.agg #[.int .i64 0, .int .i64 0, .int .i64 0, .int .i64 0]) 4 32 Try.underlying44 hi hz0 hz1 hz2 (by rfl) (by decide) _ k _ (by rfl) (ownsRow_turn (HOWN.out.alloc _) ((Ext.refl _).drew.turn 0)) ⟨wr.heap.size, 0, none⟩ 1 1 [.int .i64 3, .int .i64 z0, .int .i64 z1, .int .i64 z2] (by rfl) (by rfl) (World.news_of_block (heap_alloc_new _ _)) one_prim (by decide) hm1 hm3 (by simpa using hw2W) _ rfl ?_; intro g cap2 w5 hown5 hgrow5 hat5 hlt5; have y0 := far_cell hgrow5 q0 HRB.out; have y1 := far_cell hgrow5 q1 HRB.out; have y2 := far_cell hgrow5 q2 HRB.out; have HOWN5 := Lib.hid hown5; have HG5 := Lib.hid hgrow5; clear hown5 hgrow5))
      all_goals
        have HX5 := Lib.hid (((HX.out.alloc _).drew).grown HG5.out (fun j hj => (HOWN.out.lt j hj).1))
        go_wp2_with fail
        go_roundw
        case rel => exact ⟨k + 1, _, _, by omega, by rw [HSM.out]; go_num, rfl, by rw [HSUC.out]; exact HOWN5.out, HX5.out⟩
        case measure => simp [intOf]; omega
    · have hle : ¬ k * spR 6 + 3 ≤ l.length := fun h => hlt (hkn.2 h)
      obtain rfl : k = prN 6 l.length := by omega
      clear hkn hlt
      generalize prN 6 l.length * spR 6 = I at *
      have hsc := SlC.owned hown
      obtain ⟨J, hJ⟩ : ∃ J, I + 1 = J := ⟨_, rfl⟩
      obtain ⟨K, hK⟩ : ∃ K, I + 2 = K := ⟨_, rfl⟩
      rw [hJ]
      have s1 : IntKind.i64.wrap ((I : Int) + 1) = (J : Int) := by rw [IntWalk.i64_in _ (by omega)]; omega
      have s2 : IntKind.i64.wrap ((I : Int) + 2) = (K : Int) := by rw [IntWalk.i64_in _ (by omega)]; omega
      have s3 : IntKind.i64.wrap ((J : Int) + 1) = (K : Int) := by rw [IntWalk.i64_in _ (by omega)]; omega
      have r1 : ¬ (K : Int) < (l.length : Int) := by omega
      have HPL := Lib.hid (show pmLen 6 l = prN 6 l.length by unfold pmLen isCl; simp)
      have HPA := Lib.hid (show pmAll 6 l = pmF 6 l (prN 6 l.length) by unfold pmAll isCl; simp)
      have HSC := Lib.hid hsc
      clear hown hsc
      go_wp2_with fail
      go_ret2
      exact ⟨a, c, by rw [HPL.out]; rfl, by rw [HPL.out, HPA.out]; exact HSC.out, hx⟩
end Go.Proofs.Ytgbcngmciabpkaa
