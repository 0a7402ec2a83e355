/- Contract of the document's Prims at strips. Conditions: each theorem's own premises. -/
import Derived.Test.YtgbcngmciabpkaaFet17
namespace Go.Proofs.Ytgbcngmciabpkaa
open Go.RowKit Go.ChangeShapes
set_option linter.unusedVariables false
/-- A row that lay before a block came is not touched by what is done to the block. -/
theorem own_far {wr w7 W8 : World} {B b7 sz n : Nat} {e : TypeId} {v : Value} {xs : List Value} (h : wr.ownsRow B e sz v n xs) (h7 : w7.ownsRow B e sz v n xs) (hb : wr.heap.size = b7) (hc : Chg [b7] w7 W8) : W8.ownsRow B e sz v n xs := by
  refine ⟨h7.1, ?_⟩
  rcases h7.2 with hn | ⟨g, cap, cur, hv, hb2, hg, rest⟩
  · exact .inl hn
  · refine .inr ⟨g, cap, cur, hv, hb2, hc.heap hg (fun hm => ?_), rest⟩
    have := (h.lt g (by rw [hv]; rfl)).2
    simp at hm
    omega
theorem newPd (w : World) (L : List Value) (hl : L.length = 4) (h1 : L.toArray.all (·.oneCell') = true) :
    ∃ w', (@Classical.epsilon _ neG (StF 51 (.pointer (some ⟨w.heap.size, 0, none⟩)) (.agg L.toArray))).run Try.prog (w.alloc (.cells #[.int .i64 0, .int .i64 0, .int .i64 0, .int .i64 0] 51)).drew = .ok () w' ∧ w'.heap[w.heap.size]? = some (.cells L.toArray 51 (0, 0)) ∧ Ext w w' := by
  have h : (w.alloc (.cells #[.int .i64 0, .int .i64 0, .int .i64 0, .int .i64 0] 51)).drew.heap[w.heap.size]? = some (.cells [Value.int .i64 0, .int .i64 0, .int .i64 0, .int .i64 0].toArray 51 (0, 0)) := heap_alloc_new _ _
  obtain ⟨h1, h2, h3⟩ := stF_mid 51 h 0 L (by rw [hl]; decide) (by rw [hl]; exact info_prim4) h1
  refine ⟨_, h1, ?_, (((Ext.refl _).alloc _).drew).chgTrans h3 (by simp)⟩
  rw [h2, List.take_zero, List.nil_append, Nat.zero_add, List.drop_eq_nil_of_le (by rw [hl]; decide), List.append_nil]
attribute [local go_sem ↓] St_Pr Ld_Pr
set_option maxHeartbeats 4000000 in
set_option maxRecDepth 100000 in
theorem rprims5 (lv : Value) (l : List Int) (w : World) (hl : Ints .i64 w lv l) (hlen : l.length ≤ 300) :
    Calls Try.prog 20 #[.int .i64 5, lv] w fun e w' => ∃ a cap, e = .returned (.tuple #[.slice a (pmLen 5 l) cap, .bool true]) ∧ SlC w' (.slice a (pmLen 5 l) cap) 4 (pmLen 5 l) (pmAll 5 l) ∧ Ext w w' := by
  obtain ⟨i0, hi, hz0, hz1, hz2⟩ := info_parts info_prim
  have HL := Lib.hid hl
  obtain ⟨⟨_, av, cap, rfl, hc1, hc2, hzz, _⟩, _⟩ := hl
  have HN := Lib.hid (prN_iff 5 l.length)
  have HLB : Hid (∀ b, (Value.slice av l.length cap).ownBlock = some b → 0 < l.length → b < w.heap.size) := Lib.hid (fun b hb h0 => HL.out.1.lt hb h0)
  go_enter Try.func20, Try.ntmps20
  go_wp2_with fail
  go_loopw [7, 12] (fun o i wr => ∃ (k : Nat) (a : Option Addr) (c : Nat), k ≤ prN 5 l.length ∧ i = .int .i64 (k * spR 5 : Nat) ∧ o = .slice a k c ∧ wr.ownsRow w.heap.size 51 4 (.slice a k c) k (pmF 5 l k) ∧ Ext w wr) (fun _ i _ => (l.length + 5 - (intOf i).toNat))
  case atStart => exact ⟨0, none, 0, Nat.zero_le _, rfl, rfl, World.ownsRow_nil _ _ _ _, Ext.refl _⟩
  case round =>
    rename World => wr
    obtain ⟨k, a, c, hk, rfl, rfl, hown, hx⟩ := hrel
    have hkn := HN.out k
    rw [show szR 5 = 3 from rfl] at hkn
    have hbd := prN_bd 5 l.length k hk
    have hpl := prN_le 5 l.length
    have HSUC := Lib.hid (pmF_succ 5 l k)
    have HSM := Lib.hid (show (k + 1) * spR 5 = k * spR 5 + 1 from Nat.succ_mul _ _)
    by_cases hlt : k < prN 5 l.length
    · have hle := hkn.1 hlt
      clear hkn
      obtain ⟨I, hI⟩ : ∃ I, k * spR 5 = I := ⟨_, rfl⟩
      rw [hI] at hle hbd HSUC HSM ⊢
      clear hI
      obtain ⟨b, off, hav, hbl, hcell⟩ := (HL.out.ext hx).pos (by omega)
      cases hav
      have q0 := hcell I (by omega)
      have q1 := hcell (I + 1) (by omega)
      have q2 := hcell (I + 2) (by omega)
      obtain ⟨z0, hz0'⟩ : ∃ z, l.getD I 0 = z := ⟨_, rfl⟩
      obtain ⟨z1, hz1'⟩ : ∃ z, l.getD (I + 1) 0 = z := ⟨_, rfl⟩
      obtain ⟨z2, hz2'⟩ : ∃ z, l.getD (I + 2) 0 = z := ⟨_, rfl⟩
      have hpb : prB l I (szR 5) = [z0, z1, z2] := by rw [show szR 5 = 3 from rfl, prB3 hle, hz0', hz1', hz2']
      have HPB := Lib.hid hpb
      rw [hz0'] at q0
      rw [hz1'] at q1
      rw [hz2'] at q2
      obtain ⟨J, hJ⟩ : ∃ J, I + 1 = J := ⟨_, rfl⟩
      obtain ⟨K, hK⟩ : ∃ K, I + 2 = K := ⟨_, rfl⟩
      rw [hJ] at q1
      rw [hK] at q2
      have s1 : IntKind.i64.wrap ((I : Int) + 1) = (J : Int) := by rw [IntWalk.i64_in _ (by omega)]; omega
      have s2 : IntKind.i64.wrap ((I : Int) + 2) = (K : Int) := by rw [IntWalk.i64_in _ (by omega)]; omega
      have t1 : (J : Int) < (l.length : Int) := by omega
      have t2 : (K : Int) < (l.length : Int) := by omega
      have t0 : (I : Int) < (l.length : Int) := by omega
      have l0 : 0 < l.length := by omega
      have hm1 : k + 1 ≤ maxLen := by unfold maxLen; omega
      have hm3 : (k + 1) * 32 ≤ 140737488355328 := by omega
      have hxs := hx.size
      have HOWN := Lib.hid hown
      have HX := Lib.hid hx
      obtain ⟨w7, hst7, h7, hx7⟩ := newPd wr [.int .i64 3, .int .i64 z0, .int .i64 z1, .int .i64 z2] rfl (by simp [Value.oneCell'])
      have y0 := hx7.cell q0
      have y1 := hx7.cell q1
      have y2 := hx7.cell q2
      have H7 := Lib.hid h7
      have HX7 := Lib.hid (HX.out.trans hx7)
      have HOWN7 := Lib.hid (ownsRow_turn HOWN.out (hx7.turn 0))
      have hsz7 := hx7.size
      have n7 := heap_lt h7
      clear hcell hpb hown hx hz0' hz1' hz2' h7 hx7
      go_upto_region 33 with fail
      go_region_held3 (fun w' => w'.cell? (⟨b, off + I, none⟩ : Addr) = some (.int .i64 z0) ∧ w'.cell? (⟨b, off + J, none⟩ : Addr) = some (.int .i64 z1) ∧ w'.cell? (⟨b, off + K, none⟩ : Addr) = some (.int .i64 z2)) (go_keep) (fail)
      generalize hB7 : wr.heap.size = b7 at *
      have HB7 := Lib.hid hB7
      have p1 : w7.cell? ⟨b7, 1, none⟩ = some (.int .i64 z0) := cell_of_heap H7.out rfl
      have p2 : w7.cell? ⟨b7, 2, none⟩ = some (.int .i64 z1) := cell_of_heap H7.out rfl
      have f1 : w7.frozen? ⟨b7, 1, none⟩ = false := free_of_heap H7.out
      have f2 : w7.frozen? ⟨b7, 2, none⟩ = false := free_of_heap H7.out
      have hbB : w.heap.size ≤ b7 := hxs
      clear q0 q1 q2 y0 y1 y2 hst7 hB7
      by_cases ho : I % 2 = 1
      · have hbit : Int.tmod (I : Int) 2 = 1 := by rw [Int.tmod_eq_emod_of_nonneg (by omega)]; omega
        have hbit2 : (I : Int) % 2 = 1 := by omega
        have h61 := heap_set (k := 1) (u := .int .i64 z1) H7.out
        have h62 := heap_set (k := 2) (u := .int .i64 z0) h61
        have g2 : (w7.setCell ⟨b7, 1, none⟩ (.int .i64 z1)).cell? ⟨b7, 2, none⟩ = some (.int .i64 z1) := cell_of_heap h61 rfl
        have f3 : (w7.setCell ⟨b7, 1, none⟩ (.int .i64 z1)).frozen? ⟨b7, 2, none⟩ = false := free_of_heap h61
        have HPC := Lib.hid (prC_swap HPB.out ho)
        have HPC : Hid (prC 5 l I = [.int .i64 3, .int .i64 z1, .int .i64 z0, .int .i64 z2]) := HPC
        obtain ⟨W8, hW8⟩ : ∃ W8, (w7.setCell ⟨b7, 1, none⟩ (.int .i64 z1)).setCell ⟨b7, 2, none⟩ (.int .i64 z0) = W8 := ⟨_, rfl⟩
        have hch : Chg [b7] w7 W8 := by rw [← hW8]; exact ((Chg.refl _ _).setCell (by simp) _).setCell (by simp) _
        rw [hW8] at h62
        have HX8 := Lib.hid (HX7.out.chgTrans hch (by simp; exact hbB))
        have HOWN8 : Hid (W8.ownsRow w.heap.size 51 4 (.slice a k c) k (pmF 5 l k)) := Lib.hid (own_far HOWN.out HOWN7.out HB7.out hch)
        have hld := ldF_whole (T := 51) (cs := [.int .i64 3, .int .i64 z1, .int .i64 z0, .int .i64 z2]) _ h62 Try.underlying51 rfl info_prim4
        have hw2W : w.heap.size ≤ W8.heap.size + 1 := by have := HX8.out.size; omega
        have n8 := heap_lt h62
        clear h61 h62 hch
        go_upto_region 36 with fail
        clear hW8
        go_wp2_with (at_builtin; refine wpList_append_own _ rfl _ _ 44 rfl w.heap.size 51 i0 (.agg #[.int .i64 0, .int .i64 0, .int .i64 0, .int .i64 0]) 4 32 Try.underlying44 hi hz0 hz1 hz2 rfl (by decide) _ _ _ rfl (HOWN8.out.alloc _) ⟨W8.heap.size, 0, none⟩ 1 1 [.int .i64 3, .int .i64 z1, .int .i64 z0, .int .i64 z2] rfl rfl (World.news_of_block (heap_alloc_new _ _)) one_prim hm1 hm3 (by simpa using hw2W) ?_; intro v5 w5 hown5 hgrow5 _)
        obtain ⟨a5, c5, rfl⟩ := owns_slice hown5
        have HX5 := Lib.hid ((HX8.out.alloc _).grown hgrow5 (fun j hj => (HOWN8.out.lt j hj).1))
        have HOWN5 := Lib.hid hown5
        clear hown5 hgrow5
        go_wp2_with fail
        go_roundw
        case rel => exact ⟨k + 1, _, _, by omega, by rw [HSM.out]; go_num, rfl, by rw [HSUC.out, HPC.out]; exact HOWN5.out, HX5.out⟩
        case measure => simp [intOf]; omega
      · have hbit : Int.tmod (I : Int) 2 = 0 := by rw [Int.tmod_eq_emod_of_nonneg (by omega)]; omega
        have hbit2 : (I : Int) % 2 = 0 := by omega
        have HPC := Lib.hid (prC_else HPB.out (fun h => ho h.2) (by decide : (5 : Int) ≠ 6))
        have HPC : Hid (prC 5 l I = [.int .i64 3, .int .i64 z0, .int .i64 z1, .int .i64 z2]) := HPC
        obtain ⟨W8, hW8⟩ : ∃ W8, w7 = W8 := ⟨_, rfl⟩
        subst hW8
        have HX8 := HX7
        have HOWN8 := HOWN7
        have hld := ldF_whole (T := 51) (cs := [.int .i64 3, .int .i64 z0, .int .i64 z1, .int .i64 z2]) _ H7.out Try.underlying51 rfl info_prim4
        have hw2W : w.heap.size ≤ w7.heap.size + 1 := by have := HX8.out.size; omega
        clear ho
        go_wp2_with (at_builtin; refine wpList_append_own _ rfl _ _ 44 rfl w.heap.size 51 i0 (.agg #[.int .i64 0, .int .i64 0, .int .i64 0, .int .i64 0]) 4 32 Try.underlying44 hi hz0 hz1 hz2 rfl (by decide) _ _ _ rfl (HOWN8.out.alloc _) ⟨w7.heap.size, 0, none⟩ 1 1 [.int .i64 3, .int .i64 z0, .int .i64 z1, .int .i64 z2] rfl rfl (World.news_of_block (heap_alloc_new _ _)) one_prim hm1 hm3 (by simpa using hw2W) ?_; intro v5 w5 hown5 hgrow5 _)
        obtain ⟨a5, c5, rfl⟩ := owns_slice hown5
        have HX5 := Lib.hid ((HX8.out.alloc _).grown hgrow5 (fun j hj => (HOWN8.out.lt j hj).1))
        have HOWN5 := Lib.hid hown5
        clear hown5 hgrow5
        go_wp2_with fail
        go_roundw
        case rel => exact ⟨k + 1, _, _, by omega, by rw [HSM.out]; go_num, rfl, by rw [HSUC.out, HPC.out]; exact HOWN5.out, HX5.out⟩
        case measure => simp [intOf]; omega
    · have hle : ¬ k * spR 5 + 3 ≤ l.length := fun h => hlt (hkn.2 h)
      obtain rfl : k = prN 5 l.length := by omega
      clear hkn hlt
      generalize prN 5 l.length * spR 5 = I at *
      have hsc := SlC.owned hown
      obtain ⟨J, hJ⟩ : ∃ J, I + 1 = J := ⟨_, rfl⟩
      obtain ⟨K, hK⟩ : ∃ K, I + 2 = K := ⟨_, rfl⟩
      have s1 : IntKind.i64.wrap ((I : Int) + 1) = (J : Int) := by rw [IntWalk.i64_in _ (by omega)]; omega
      have s2 : IntKind.i64.wrap ((I : Int) + 2) = (K : Int) := by rw [IntWalk.i64_in _ (by omega)]; omega
      have r1 : ¬ (K : Int) < (l.length : Int) := by omega
      have HPL := Lib.hid (show pmLen 5 l = prN 5 l.length by unfold pmLen isCl; simp)
      have HPA := Lib.hid (show pmAll 5 l = pmF 5 l (prN 5 l.length) by unfold pmAll isCl; simp)
      have HSC := Lib.hid hsc
      clear hown hsc
      go_wp2_with fail
      go_ret2
      exact ⟨a, c, by rw [HPL.out]; rfl, by rw [HPL.out, HPA.out]; exact HSC.out, hx⟩
end Go.Proofs.Ytgbcngmciabpkaa
