/- The walk of FetchPrims. Conditions: each theorem's own premises. -/
import Derived.Test.YtgbcngmciabpkaaFet19
namespace Go.Proofs.Ytgbcngmciabpkaa
open Go.RowKit Go.ChangeShapes
set_option linter.unusedVariables false

theorem info_int : (Try.prog.info? 3).map (fun i => (i.zero, i.size, i.bytes)) = some (some (.int .i64 0), 1, 8) := by kernel_rfl
theorem Ints.of_ownedT {k : IntKind} {w : World} {base : Nat} {e : TypeId} {v : Value} {n : Nat} {zs : List Int} (h : w.ownsRow base e 1 v n (zs.map (Value.int k))) (hz : ∀ z ∈ zs, (Lit.int k z).wf = true) : Ints k w v zs := by
  have hn : n = zs.length := by have := h.1; simp at this; omega
  subst hn
  exact ⟨SlC.owned h, hz⟩
theorem eq_trin (a0 a1 a2 b0 b1 b2 : Int) (w : World) : (Op.equalIn 9999 49 (.agg #[.int .i64 a0, .int .i64 a1, .int .i64 a2]) (.agg #[.int .i64 b0, .int .i64 b1, .int .i64 b2])).run Try.prog w = .ok (a0 == b0 && (a1 == b1 && a2 == b2)) w := eq_tri9 9997 a0 a1 a2 b0 b1 b2 w
attribute [local go_sem] eq_trin
attribute [local go_sem ↓] Ld_Pr
set_option maxRecDepth 100000 in
set_option maxHeartbeats 4000000 in
theorem prims_walk (m : Int) (v : Value) (bs : List Int) (w : World) (h : Ints .i64 w v bs) : Calls Try.prog 5 #[.int .i64 m, v] w fun e w' => e = .returned (.bool true) ∧ Ext w w' := by
  obtain ⟨i0, hi, hz0, hz1, hz2⟩ := info_parts info_int
  obtain ⟨a1, k1, rfl⟩ : ∃ a cap, v = .slice a bs.length cap := by obtain ⟨⟨_, a, cap, rfl, _⟩, _⟩ := h; exact ⟨a, cap, rfl⟩
  have hp := h.pre (n := min bs.length 257) (by omega)
  have hlen : (bs.take (min bs.length 257)).length = min bs.length 257 := by rw [List.length_take]; omega
  have hc := h.cap
  have s1 : (if (257 : Int) < (bs.length : Int) then 257 else (bs.length : Int)) = ((min bs.length 257 : Nat) : Int) := by split <;> omega
  have hn : min bs.length 257 ≤ 257 := Nat.min_le_right _ _
  have hn2 : min bs.length 257 ≤ bs.length := Nat.min_le_left _ _
  generalize bs.take (min bs.length 257) = zs at *
  generalize min bs.length 257 = n at *
  subst hlen
  have HP := Lib.hid hp
  have hnk : (zs.length : Int) ≤ (k1 : Int) := by omega
  clear hp h
  by_cases hm : m < 0 ∨ 6 < m
  · have HM := Lib.hid hm
    go_enter Try.func5, Try.ntmps5
    go_wp2_with (first | (go_at_call 10; refine (wakes_any _).mono ?_; rintro _ w1 ⟨rfl, hx1⟩; have HX1 := Lib.hid hx1; clear hx1) | (at_builtin; refine wpList_append_all rfl _ _ 43 rfl w1.heap.size 3 i0 (.int .i64 0) 1 8 Try.underlying43 hi hz0 hz1 hz2 rfl (by decide) _ _ _ rfl (World.ownsRow_made w1 #[] 0 (Nat.le_refl _) (Nat.zero_le _) (by simp)) zs.length _ _ rfl (HP.out.1.ext (HX1.out.alloc _)) int_one ?c4 ?c5 ?c6 ?_))
    case c4 => unfold maxLen; omega
    case c5 => omega
    case c6 => simp
    intro v2 w2 hown2 hgrow2
    have hx2 : Ext w w2 := (HX1.out.alloc _).grown hgrow2 (fun k hk => by simp [Value.ownBlock] at hk; have := HX1.out.size; omega)
    obtain ⟨a2, c2, rfl⟩ := owns_slice hown2
    try simp only [Nat.zero_add, List.nil_append] at hown2
    have HI2 := Lib.hid (Ints.of_ownedT hown2 HP.out.2)
    have HX2 := Lib.hid hx2
    clear hgrow2 hx2 hown2
    go_wp2_with (at_builtin; refine wpList_append_all rfl _ _ 43 rfl w2.heap.size 3 i0 (.int .i64 0) 1 8 Try.underlying43 hi hz0 hz1 hz2 rfl (by decide) _ _ _ rfl (World.ownsRow_made w2 #[] 0 (Nat.le_refl _) (Nat.zero_le _) (by simp)) zs.length _ _ rfl (HI2.out.1.ext ((Ext.refl _).alloc _)) int_one ?c4 ?c5 ?c6 ?_)
    case c4 => unfold maxLen; omega
    case c5 => omega
    case c6 => simp
    intro v3 w3 hown3 hgrow3
    have hx3 : Ext w2 w3 := ((Ext.refl w2).alloc _).grown hgrow3 (fun k hk => by simp [Value.ownBlock] at hk; omega)
    obtain ⟨a3, c3, rfl⟩ := owns_slice hown3
    try simp only [Nat.zero_add, List.nil_append] at hown3
    have HI3 := Lib.hid (Ints.of_ownedT hown3 HP.out.2)
    have HI23 := Lib.hid (HI2.out.ext hx3)
    have HX3 := Lib.hid (HX2.out.trans hx3)
    clear hgrow3 hx3 hown3
    go_wp2_with (first | (go_at_call 19; refine (fprims_bad m hm _ _).mono ?_; rintro _ w4 ⟨rfl, hx4⟩) | (go_at_call 20; refine (rprims_bad m hm _ _ _ _).mono ?_; rintro _ w5 ⟨rfl, hx5⟩))
    have HI5 := Lib.hid (HI23.out.ext (hx4.trans hx5))
    have HJ5 := Lib.hid (HI3.out.ext (hx4.trans hx5))
    have HX5 := Lib.hid ((HX3.out.trans hx4).trans hx5)
    have HX45 := Lib.hid hx5
    clear hx4 hx5 HI23 HI3 HX3
    go_loopw [38] (fun i wr => ∃ k : Nat, k ≤ zs.length ∧ i = .int .i64 k ∧ Ext w5 wr) (fun i _ => zs.length - (intOf i).toNat)
    case atStart => exact ⟨0, Nat.zero_le _, rfl, Ext.refl _⟩
    case round =>
      rename World => wr
      obtain ⟨k, hk, rfl, hx⟩ := hrel
      by_cases hlt : k < zs.length
      · obtain ⟨b, off, he, hb, hcell⟩ := (HI5.out.ext hx).pos (by omega)
        cases he
        obtain ⟨b', off', he', hb', hcell'⟩ := (HJ5.out.ext hx).pos (by omega)
        cases he'
        have q0 := hcell k hlt
        have q1 := hcell' k hlt
        generalize zs.getD k 0 = z at q0 q1
        have hki : (k : Int) < (zs.length : Int) := by omega
        have HX := Lib.hid hx
        clear hcell hcell' hx
        go_upto_region 10 with fail
        go_region_held3 (fun w' => w'.cell? (⟨b, off + k, none⟩ : Addr) = some (.int .i64 z) ∧ w'.cell? (⟨b', off' + k, none⟩ : Addr) = some (.int .i64 z)) (go_keep) (fail)
        all_goals
          go_wp2_with fail
          go_roundw
          case rel => exact ⟨k + 1, by omega, by go_num, by first | exact HX.out | exact HX.out.drew | exact HX.out.drew.drew⟩
          case measure => simp [intOf]; omega
      · obtain rfl : k = zs.length := by omega
        clear hlt
        have HX := Lib.hid (HX5.out.trans hx)
        go_wp2_with fail
        go_ret
        exact ⟨rfl, HX.out⟩
  · have hm1 : 0 ≤ m := by omega
    have hm2 : m ≤ 6 := by omega
    clear hm
    by_cases h257 : 256 < zs.length
    · have h257i : (256 : Int) < (zs.length : Int) := by omega
      go_enter Try.func5, Try.ntmps5
      go_wp2_with (first | (go_at_call 10; refine (wakes_any _).mono ?_; rintro _ w1 ⟨rfl, hx1⟩; have HX1 := Lib.hid hx1; clear hx1) | (at_builtin; refine wpList_append_all rfl _ _ 43 rfl w1.heap.size 3 i0 (.int .i64 0) 1 8 Try.underlying43 hi hz0 hz1 hz2 rfl (by decide) _ _ _ rfl (World.ownsRow_made w1 #[] 0 (Nat.le_refl _) (Nat.zero_le _) (by simp)) zs.length _ _ rfl (HP.out.1.ext (HX1.out.alloc _)) int_one ?c4 ?c5 ?c6 ?_))
      case c4 => unfold maxLen; omega
      case c5 => omega
      case c6 => simp
      intro v2 w2 hown2 hgrow2
      have hx2 : Ext w w2 := (HX1.out.alloc _).grown hgrow2 (fun k hk => by simp [Value.ownBlock] at hk; have := HX1.out.size; omega)
      obtain ⟨a2, c2, rfl⟩ := owns_slice hown2
      try simp only [Nat.zero_add, List.nil_append] at hown2
      have HI2 := Lib.hid (Ints.of_ownedT hown2 HP.out.2)
      have HX2 := Lib.hid hx2
      clear hgrow2 hx2 hown2
      go_wp2_with (at_builtin; refine wpList_append_all rfl _ _ 43 rfl w2.heap.size 3 i0 (.int .i64 0) 1 8 Try.underlying43 hi hz0 hz1 hz2 rfl (by decide) _ _ _ rfl (World.ownsRow_made w2 #[] 0 (Nat.le_refl _) (Nat.zero_le _) (by simp)) zs.length _ _ rfl (HI2.out.1.ext ((Ext.refl _).alloc _)) int_one ?c4 ?c5 ?c6 ?_)
      case c4 => unfold maxLen; omega
      case c5 => omega
      case c6 => simp
      intro v3 w3 hown3 hgrow3
      have hx3 : Ext w2 w3 := ((Ext.refl w2).alloc _).grown hgrow3 (fun k hk => by simp [Value.ownBlock] at hk; omega)
      obtain ⟨a3, c3, rfl⟩ := owns_slice hown3
      try simp only [Nat.zero_add, List.nil_append] at hown3
      have HI3 := Lib.hid (Ints.of_ownedT hown3 HP.out.2)
      have HI23 := Lib.hid (HI2.out.ext hx3)
      have HX3 := Lib.hid (HX2.out.trans hx3)
      clear hgrow3 hx3 hown3
      go_wp2_with (first | (go_at_call 19; refine (fprims_long m hm1 hm2 _ _ _ h257 _).mono ?_; rintro _ w4 ⟨rfl, hx4⟩) | (go_at_call 20; refine (rprims_any m hm1 hm2 _ zs _ (HI3.out.ext hx4) (by omega)).mono ?_; rintro _ w5 ⟨a5, c5, rfl, hs5, hx5⟩))
      have HI5 := Lib.hid (HI23.out.ext (hx4.trans hx5))
      have HJ5 := Lib.hid (HI3.out.ext (hx4.trans hx5))
      have HX5 := Lib.hid ((HX3.out.trans hx4).trans hx5)
      have HX45 := Lib.hid hx5
      clear hx4 hx5 HI23 HI3 HX3
      go_loopw [38] (fun i wr => ∃ k : Nat, k ≤ zs.length ∧ i = .int .i64 k ∧ Ext w5 wr) (fun i _ => zs.length - (intOf i).toNat)
      case atStart => exact ⟨0, Nat.zero_le _, rfl, Ext.refl _⟩
      case round =>
        rename World => wr
        obtain ⟨k, hk, rfl, hx⟩ := hrel
        by_cases hlt : k < zs.length
        · obtain ⟨b, off, he, hb, hcell⟩ := (HI5.out.ext hx).pos (by omega)
          cases he
          obtain ⟨b', off', he', hb', hcell'⟩ := (HJ5.out.ext hx).pos (by omega)
          cases he'
          have q0 := hcell k hlt
          have q1 := hcell' k hlt
          generalize zs.getD k 0 = z at q0 q1
          have hki : (k : Int) < (zs.length : Int) := by omega
          have HX := Lib.hid hx
          clear hcell hcell' hx
          go_upto_region 10 with fail
          go_region_held3 (fun w' => w'.cell? (⟨b, off + k, none⟩ : Addr) = some (.int .i64 z) ∧ w'.cell? (⟨b', off' + k, none⟩ : Addr) = some (.int .i64 z)) (go_keep) (fail)
          all_goals
            go_wp2_with fail
            go_roundw
            case rel => exact ⟨k + 1, by omega, by go_num, by first | exact HX.out | exact HX.out.drew | exact HX.out.drew.drew⟩
            case measure => simp [intOf]; omega
        · obtain rfl : k = zs.length := by omega
          clear hlt
          have HX := Lib.hid (HX5.out.trans hx)
          go_wp2_with fail
          go_ret
          exact ⟨rfl, HX.out⟩
    · have h257i : ¬ (256 : Int) < (zs.length : Int) := by omega
      go_enter Try.func5, Try.ntmps5
      go_wp2_with (first | (go_at_call 10; refine (wakes_any _).mono ?_; rintro _ w1 ⟨rfl, hx1⟩; have HX1 := Lib.hid hx1; clear hx1) | (at_builtin; refine wpList_append_all rfl _ _ 43 rfl w1.heap.size 3 i0 (.int .i64 0) 1 8 Try.underlying43 hi hz0 hz1 hz2 rfl (by decide) _ _ _ rfl (World.ownsRow_made w1 #[] 0 (Nat.le_refl _) (Nat.zero_le _) (by simp)) zs.length _ _ rfl (HP.out.1.ext (HX1.out.alloc _)) int_one ?c4 ?c5 ?c6 ?_))
      case c4 => unfold maxLen; omega
      case c5 => omega
      case c6 => simp
      intro v2 w2 hown2 hgrow2
      have hx2 : Ext w w2 := (HX1.out.alloc _).grown hgrow2 (fun k hk => by simp [Value.ownBlock] at hk; have := HX1.out.size; omega)
      obtain ⟨a2, c2, rfl⟩ := owns_slice hown2
      try simp only [Nat.zero_add, List.nil_append] at hown2
      have HI2 := Lib.hid (Ints.of_ownedT hown2 HP.out.2)
      have HX2 := Lib.hid hx2
      clear hgrow2 hx2 hown2
      go_wp2_with (at_builtin; refine wpList_append_all rfl _ _ 43 rfl w2.heap.size 3 i0 (.int .i64 0) 1 8 Try.underlying43 hi hz0 hz1 hz2 rfl (by decide) _ _ _ rfl (World.ownsRow_made w2 #[] 0 (Nat.le_refl _) (Nat.zero_le _) (by simp)) zs.length _ _ rfl (HI2.out.1.ext ((Ext.refl _).alloc _)) int_one ?c4 ?c5 ?c6 ?_)
      case c4 => unfold maxLen; omega
      case c5 => omega
      case c6 => simp
      intro v3 w3 hown3 hgrow3
      have hx3 : Ext w2 w3 := ((Ext.refl w2).alloc _).grown hgrow3 (fun k hk => by simp [Value.ownBlock] at hk; omega)
      obtain ⟨a3, c3, rfl⟩ := owns_slice hown3
      try simp only [Nat.zero_add, List.nil_append] at hown3
      have HI3 := Lib.hid (Ints.of_ownedT hown3 HP.out.2)
      have HI23 := Lib.hid (HI2.out.ext hx3)
      have HX3 := Lib.hid (HX2.out.trans hx3)
      clear hgrow3 hx3 hown3
      go_wp2_with (first | (go_at_call 19; refine (fprims_any m hm1 hm2 _ zs _ HI23.out (by omega)).mono ?_; rintro _ w4 ⟨a4, c4, rfl, hs4, hx4⟩) | (go_at_call 20; refine (rprims_any m hm1 hm2 _ zs _ (HI3.out.ext hx4) (by omega)).mono ?_; rintro _ w5 ⟨a5, c5, rfl, hs5, hx5⟩))
      have HI5 := Lib.hid (HI23.out.ext (hx4.trans hx5))
      have HJ5 := Lib.hid (HI3.out.ext (hx4.trans hx5))
      have HX5 := Lib.hid ((HX3.out.trans hx4).trans hx5)
      have HX45 := Lib.hid hx5
      clear hx4 hx5 HI23 HI3 HX3
      go_loopw [38] (fun i wr => ∃ k : Nat, k ≤ zs.length ∧ i = .int .i64 k ∧ Ext w5 wr) (fun i _ => zs.length - (intOf i).toNat)
      case atStart => exact ⟨0, Nat.zero_le _, rfl, Ext.refl _⟩
      case round =>
        rename World => wr
        obtain ⟨k, hk, rfl, hx⟩ := hrel
        by_cases hlt : k < zs.length
        · obtain ⟨b, off, he, hb, hcell⟩ := (HI5.out.ext hx).pos (by omega)
          cases he
          obtain ⟨b', off', he', hb', hcell'⟩ := (HJ5.out.ext hx).pos (by omega)
          cases he'
          have q0 := hcell k hlt
          have q1 := hcell' k hlt
          generalize zs.getD k 0 = z at q0 q1
          have hki : (k : Int) < (zs.length : Int) := by omega
          have HX := Lib.hid hx
          clear hcell hcell' hx
          go_upto_region 10 with fail
          go_region_held3 (fun w' => w'.cell? (⟨b, off + k, none⟩ : Addr) = some (.int .i64 z) ∧ w'.cell? (⟨b', off' + k, none⟩ : Addr) = some (.int .i64 z)) (go_keep) (fail)
          all_goals
            go_wp2_with fail
            go_roundw
            case rel => exact ⟨k + 1, by omega, by go_num, by first | exact HX.out | exact HX.out.drew | exact HX.out.drew.drew⟩
            case measure => simp [intOf]; omega
        · obtain rfl : k = zs.length := by omega
          clear hlt
          have HX := Lib.hid (HX5.out.trans hx)
          have HG := Lib.hid ((hs4.ext HX45.out).ext hx)
          have HR := Lib.hid (hs5.ext hx)
          clear hx hs4 hs5
          obtain ⟨N, hN⟩ : ∃ N, pmLen m zs = N := ⟨_, rfl⟩
          have HN := Lib.hid hN
          have hnle := pmLen_le m zs
          rw [hN] at HG HR hnle
          go_wp2_with fail
          rw [HN.out]
          go_loopw [83] (fun i wq => ∃ k : Nat, k ≤ N ∧ i = .int .i64 k ∧ Ext wr wq) (fun i _ => N - (intOf i).toNat)
          case atStart => exact ⟨0, Nat.zero_le _, rfl, Ext.refl _⟩
          case round =>
            rename World => wq
            obtain ⟨k, hk, rfl, hxq⟩ := hrel
            by_cases hlt : k < N
            · obtain ⟨p0, p1, p2, p3, hp⟩ := pmP_four m zs k
              obtain ⟨b, off, rfl, hb, _⟩ := (HG.out.ext hxq).pos (by omega)
              obtain ⟨b', off', rfl, hb', _⟩ := (HR.out.ext hxq).pos (by omega)
              have q0 := prim_load (HG.out.ext hxq) HN.out.symm k hlt hp
              have q1 := prim_load (HR.out.ext hxq) HN.out.symm k hlt hp
              have y0 := prim_load ((HG.out.ext hxq).ext (Ext.refl _).drew) HN.out.symm k hlt hp
              have y1 := prim_load ((HR.out.ext hxq).ext (Ext.refl _).drew) HN.out.symm k hlt hp
              have hki : (k : Int) < (N : Int) := by omega
              have HXQ := Lib.hid hxq
              clear hxq hp
              go_upto_region 22 with fail
              go_region_held3 (fun w' => (@Classical.epsilon _ neF (LdF 51 (.pointer (some ⟨b, off + k * 4, none⟩)))).run Try.prog w' = .ok (.agg #[.int .i64 p0, .int .i64 p1, .int .i64 p2, .int .i64 p3]) w' ∧ (@Classical.epsilon _ neF (LdF 51 (.pointer (some ⟨b', off' + k * 4, none⟩)))).run Try.prog w' = .ok (.agg #[.int .i64 p0, .int .i64 p1, .int .i64 p2, .int .i64 p3]) w') (go_keep) (fail)
              all_goals
                go_wp2_with fail
                go_roundw
                case rel => exact ⟨k + 1, by omega, by go_num, by first | exact HXQ.out | exact HXQ.out.drew | exact HXQ.out.drew.drew⟩
                case measure => simp [intOf]; omega
            · obtain rfl : k = N := by omega
              go_wp2_with fail
              go_ret
              exact ⟨rfl, HX.out.trans hxq⟩
theorem prims_arg (W : World) (v0 v1 : Value) (h0 : ArgIs Try.prog W 3 v0) (h1 : ArgIs Try.prog W 43 v1) : Calls Try.prog 5 #[v0, v1] W fun e w' => e = .returned (.bool true) ∧ Ext W w' := by
  obtain ⟨m, rfl, _⟩ := h0.int Try.underlying3
  obtain ⟨zs, hz⟩ := h1.ints Try.underlying43 Try.underlying3 rfl rfl
  exact prims_walk m v1 zs W hz.1
end Go.Proofs.Ytgbcngmciabpkaa
