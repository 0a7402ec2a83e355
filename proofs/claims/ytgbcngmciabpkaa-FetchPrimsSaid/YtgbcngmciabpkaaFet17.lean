/- Contract of the document's Prims. Conditions: each theorem's own premises. -/
import Derived.Test.YtgbcngmciabpkaaFet16
namespace Go.Proofs.Ytgbcngmciabpkaa
open Go.RowKit Go.ChangeShapes
set_option linter.unusedVariables false

set_option maxHeartbeats 4000000 in
set_option maxRecDepth 100000 in
theorem rprims2 (lv : Value) (l : List Int) (w : World) (hl : Ints .i64 w lv l) (hlen : l.length ≤ 300) :
    Calls Try.prog 20 #[.int .i64 2, lv] w fun e w' => ∃ a cap, e = .returned (.tuple #[.slice a (pmLen 2 l) cap, .bool true]) ∧ SlC w' (.slice a (pmLen 2 l) cap) 4 (pmLen 2 l) (pmAll 2 l) ∧ Ext w w' := by
  obtain ⟨i0, hi, hz0, hz1, hz2⟩ := info_parts info_prim
  have HL := Lib.hid hl
  obtain ⟨⟨_, av, cap, rfl, hc1, hc2, hzz, _⟩, _⟩ := hl
  have HN := Lib.hid (prN_iff 2 l.length)
  have HLB : Hid (∀ b, (Value.slice av l.length cap).ownBlock = some b → 0 < l.length → b < w.heap.size) := Lib.hid (fun b hb h0 => HL.out.1.lt hb h0)
  go_enter Try.func20, Try.ntmps20
  go_wp2_with fail
  go_loopw [7, 10] (fun o i wr => ∃ (k : Nat) (a : Option Addr) (c : Nat), k ≤ prN 2 l.length ∧ i = .int .i64 (k * spR 2 : Nat) ∧ o = .slice a k c ∧ wr.ownsRow w.heap.size 51 4 (.slice a k c) k (pmF 2 l k) ∧ Ext w wr) (fun _ i _ => (l.length + 5 - (intOf i).toNat))
  case atStart => exact ⟨0, none, 0, Nat.zero_le _, rfl, rfl, World.ownsRow_nil _ _ _ _, Ext.refl _⟩
  case round =>
    rename World => wr
    obtain ⟨k, a, c, hk, rfl, rfl, hown, hx⟩ := hrel
    have hkn := HN.out k
    rw [show szR 2 = 2 from rfl] at hkn
    have hbd := prN_bd 2 l.length k hk
    have hpl := prN_le 2 l.length
    have HSUC := Lib.hid (pmF_succ 2 l k)
    have HSM := Lib.hid (show (k + 1) * spR 2 = k * spR 2 + 1 from Nat.succ_mul _ _)
    by_cases hlt : k < prN 2 l.length
    · have hle := hkn.1 hlt
      clear hkn
      obtain ⟨I, hI⟩ : ∃ I, k * spR 2 = I := ⟨_, rfl⟩
      rw [hI] at hle hbd HSUC HSM ⊢
      clear hI
      obtain ⟨b, off, hav, hbl, hcell⟩ := (HL.out.ext hx).pos (by omega)
      cases hav
      have q0 := hcell (I) (by omega)
      have q1 := hcell (I + 1) (by omega)
      have hpc : prC 2 l I = _ := prC_else (prB2 hle) (by simp) (by decide)
      rw [hpc] at HSUC
      obtain ⟨z0, hz0⟩ : ∃ z, l.getD I 0 = z := ⟨_, rfl⟩
      rw [hz0] at q0 HSUC
      obtain ⟨z1, hz1⟩ : ∃ z, l.getD (I + 1) 0 = z := ⟨_, rfl⟩
      rw [hz1] at q1 HSUC
      have HSUC : Hid (pmF 2 l (k + 1) = pmF 2 l k ++ [.int .i64 2, .int .i64 z0, .int .i64 z1, .int .i64 0]) := HSUC
      obtain ⟨J, hJ⟩ : ∃ J, I + 1 = J := ⟨_, rfl⟩
      obtain ⟨K, hK⟩ : ∃ K, I + 2 = K := ⟨_, rfl⟩
      rw [hJ] at q1
      have s1 : IntKind.i64.wrap ((I : Int) + 1) = (J : Int) := by rw [IntWalk.i64_in _ (by omega)]; omega
      have s2 : IntKind.i64.wrap ((I : Int) + 2) = (K : Int) := by rw [IntWalk.i64_in _ (by omega)]; omega
      have s3 : IntKind.i64.wrap ((J : Int) + 1) = (K : Int) := by rw [IntWalk.i64_in _ (by omega)]; omega
      have t1 : (J : Int) < (l.length : Int) := by omega
      have t0 : (I : Int) < (l.length : Int) := by omega
      have l0 : 0 < l.length := by omega
      have hbb : b < w.heap.size := HLB.out b rfl (by omega)
      have HRB := Lib.hid (fun j (hj : (Value.slice a k c).ownBlock = some j) => (show j ≠ b by have := (hown.lt j hj).1; omega))
      have hm1 : k + 1 ≤ maxLen := by unfold maxLen; omega
      have hm3 : (k + 1) * 32 ≤ 140737488355328 := by omega
      have hxs := hx.size
      have hw2W : w.heap.size ≤ wr.heap.size + 1 := by omega
      have HOWN := Lib.hid hown
      have HX := Lib.hid hx
      clear hcell hpc hown hx hz0 hz1
      go_upto_region 21 with fail
      go_region_held3 (fun w' => w'.cell? (⟨b, off + I, none⟩ : Addr) = some (.int .i64 z0) ∧ w'.cell? (⟨b, off + J, none⟩ : Addr) = some (.int .i64 z1)) (go_keep)
        ((refine step_append_lies _ (by rfl) _ _ _ (by rfl) w.heap.size 51 i0 (.agg #[.int .i64 0, .int .i64 0, .int .i64 0, .int .i64 0]) 4 32 Try.underlying44 hi hz0 hz1 hz2 (by rfl) (by decide) _ k _ (by rfl) (ownsRow_turn (HOWN.out.alloc _) ((Ext.refl _).drew.turn 0)) ⟨wr.heap.size, 0, none⟩ 1 1 [.int .i64 2, .int .i64 z0, .int .i64 z1, .int .i64 0] (by rfl) (by rfl) (World.news_of_block (heap_alloc_new _ _)) one_prim (by decide) hm1 hm3 (by simpa using hw2W) _ rfl ?_; intro g cap2 w5 hown5 hgrow5 hat5 hlt5; have y0 := far_cell hgrow5 q0 HRB.out; have y1 := far_cell hgrow5 q1 HRB.out; have HOWN5 := Lib.hid hown5; have HG5 := Lib.hid hgrow5; clear hown5 hgrow5))
      all_goals
        have HX5 := Lib.hid (((HX.out.alloc _).drew).grown HG5.out (fun j hj => (HOWN.out.lt j hj).1))
        go_wp2_with fail
        go_roundw
        case rel => exact ⟨k + 1, _, _, by omega, by rw [HSM.out]; go_num, rfl, by rw [HSUC.out]; exact HOWN5.out, HX5.out⟩
        case measure => simp [intOf]; omega
    · have hle : ¬ k * spR 2 + 2 ≤ l.length := fun h => hlt (hkn.2 h)
      obtain rfl : k = prN 2 l.length := by omega
      clear hkn hlt
      generalize prN 2 l.length * spR 2 = I at *
      have hsc := SlC.owned hown
      obtain ⟨J, hJ⟩ : ∃ J, I + 1 = J := ⟨_, rfl⟩
      obtain ⟨K, hK⟩ : ∃ K, I + 2 = K := ⟨_, rfl⟩
      have s1 : IntKind.i64.wrap ((I : Int) + 1) = (J : Int) := by rw [IntWalk.i64_in _ (by omega)]; omega
      have s2 : IntKind.i64.wrap ((I : Int) + 2) = (K : Int) := by rw [IntWalk.i64_in _ (by omega)]; omega
      have s3 : IntKind.i64.wrap ((J : Int) + 1) = (K : Int) := by rw [IntWalk.i64_in _ (by omega)]; omega
      have r1 : ¬ (J : Int) < (l.length : Int) := by omega
      have HX := Lib.hid hx
      have HOWN := Lib.hid hown
      have HSC := Lib.hid hsc
      have hxs := hx.size
      clear hown hsc hx
      by_cases hcl : isCl 2 l = true
      · have h2 : 1 < l.length := by simpa [isCl] using hcl
        obtain ⟨b, off, hav, hbl, hcell⟩ := (HL.out.ext HX.out).pos (by omega)
        cases hav
        have q1 := hcell (l.length - 1) (by omega)
        have q2 := hcell 0 (by omega)
        rw [Nat.add_zero] at q2
        obtain ⟨z0, hz0'⟩ : ∃ z, l.getD 0 0 = z := ⟨_, rfl⟩
        obtain ⟨z1, hz1'⟩ : ∃ z, l.getD (l.length - 1) 0 = z := ⟨_, rfl⟩
        have HP1 := Lib.hid (show pmLen 2 l = prN 2 l.length + 1 by unfold pmLen; rw [hcl]; rfl)
        have HP2 := Lib.hid (show pmAll 2 l = pmF 2 l (prN 2 l.length) ++ [.int .i64 2, .int .i64 z1, .int .i64 z0, .int .i64 0] by unfold pmAll clC; rw [hcl, hz0', hz1']; rfl)
        rw [hz0'] at q2
        rw [hz1'] at q1
        have s11 : IntKind.i64.wrap ((l.length : Int) - 1) = ((l.length - 1 : Nat) : Int) := by rw [IntWalk.i64_in _ (by omega)]; omega
        have s12 : ((l.length - 1 : Nat) : Int) < (l.length : Int) := by omega
        have s13 : (0 : Int) < (l.length : Int) := by omega
        have s14 : (2 : Int) ≤ (l.length : Int) := by omega
        have hl0 : 0 < l.length := by omega
        have hl2 : 2 ≤ l.length := by omega
        have hbb : b < w.heap.size := HLB.out b rfl (by omega)
        generalize prN 2 l.length = N at *
        generalize l.length - 1 = M at *
        have HRB := Lib.hid (fun j (hj : (Value.slice a N c).ownBlock = some j) => (show j ≠ b by have := (HOWN.out.lt j hj).1; omega))
        have hm1 : N + 1 ≤ maxLen := by unfold maxLen; omega
        have hm3 : (N + 1) * 32 ≤ 140737488355328 := by omega
        have hw2W : w.heap.size ≤ wr.heap.size + 1 := by omega
        clear hcell hcl hz0' hz1'
        go_upto_region 23 with fail
        go_region_held3 (fun w' => w'.cell? (⟨b, off + M, none⟩ : Addr) = some (.int .i64 z1) ∧ w'.cell? (⟨b, off, none⟩ : Addr) = some (.int .i64 z0)) (go_keep)
          ((refine step_append_lies _ (by rfl) _ _ _ (by rfl) w.heap.size 51 i0 (.agg #[.int .i64 0, .int .i64 0, .int .i64 0, .int .i64 0]) 4 32 Try.underlying44 hi hz0 hz1 hz2 (by rfl) (by decide) _ N _ (by rfl) (ownsRow_turn (HOWN.out.alloc _) ((Ext.refl _).drew.turn 0)) ⟨wr.heap.size, 0, none⟩ 1 1 [.int .i64 2, .int .i64 z1, .int .i64 z0, .int .i64 0] (by rfl) (by rfl) (World.news_of_block (heap_alloc_new _ _)) one_prim (by decide) hm1 hm3 (by simpa using hw2W) _ rfl ?_; intro g cap2 w5 hown5 hgrow5 hat5 hlt5; have y1 := far_cell hgrow5 q1 HRB.out; have y2 := far_cell hgrow5 q2 HRB.out; have HOWN5 := Lib.hid hown5; have HG5 := Lib.hid hgrow5; clear hown5 hgrow5))
        all_goals
          have HX5 := Lib.hid (((HX.out.alloc _).drew).grown HG5.out (fun j hj => (HOWN.out.lt j hj).1))
          have HS5 := Lib.hid (SlC.owned HOWN5.out)
          go_wp2_with fail
          go_ret2
          exact ⟨_, cap2, by rw [HP1.out]; rfl, by rw [HP1.out, HP2.out]; exact HS5.out, HX5.out⟩
      · have hcl' : isCl 2 l = false := by simpa using hcl
        have HPL := Lib.hid (show pmLen 2 l = prN 2 l.length by unfold pmLen; rw [hcl']; rfl)
        have HPA := Lib.hid (show pmAll 2 l = pmF 2 l (prN 2 l.length) by unfold pmAll; rw [hcl']; simp)
        have h2 : ¬ 1 < l.length := by simpa [isCl] using hcl'
        have h3 : ¬ (2 : Int) ≤ (l.length : Int) := by omega
        clear hcl hcl'
        go_wp2_with fail
        go_ret2
        exact ⟨a, c, by rw [HPL.out]; rfl, by rw [HPL.out, HPA.out]; exact HSC.out, HX.out⟩
end Go.Proofs.Ytgbcngmciabpkaa
