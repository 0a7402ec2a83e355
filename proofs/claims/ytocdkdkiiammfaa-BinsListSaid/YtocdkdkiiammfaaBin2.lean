/- Add, at the strokes of the wake; the wake. Conditions: each theorem's own premises. The wake. Conditions: each theorem's own premises. -/
import Derived.Test.YtocdkdkiiammfaaBinS
namespace Go.Proofs.Ytocdkdkiiammfaa
open Go.RowKit
set_option linter.unusedVariables false
set_option maxRecDepth 100000

attribute [local go_sem ↓] Ld_Sk St_Sk
set_option maxRecDepth 100000 in
set_option maxHeartbeats 8000000 in
theorem add_wake (p g s : Nat) (w : World) (hb : BAt w p 20 5 (.slice (some ⟨g, 0, none⟩) 2 2) 0) (hg : w.heap[g]? = some (.cells [Value.slice none 0 0, .slice none 0 0].toArray 34 (0, 0))) (hs : w.heap[s]? = some (.cells skL.toArray 46 (0, 0))) (hpg : p ≠ g) (hps : p ≠ s) (hgs : g ≠ s) :
    Calls Try.prog 13 #[.pointer (some ⟨p, 0, none⟩), .slice (some ⟨s, 0, none⟩) 3 3] w fun e w' => e = .returned (.int .i64 0) ∧ BAt w' p 20 5 (.slice (some ⟨g, 0, none⟩) 2 2) 2 ∧ Chg [p, g] w w' := by
  obtain ⟨i0, hi, hz0, hz1, hz2⟩ := info_parts info_sk3
  have HB := Lib.hid hb
  have HG := Lib.hid hg
  have HS := Lib.hid hs
  have np := heap_lt hb
  have ng := heap_lt hg
  have ns := heap_lt hs
  clear hb hg hs
  go_enter Try.func13, Try.ntmps13
  go_wp2
  go_step3
  go_wp2
  go_loopw [5, 18] (fun n i wr => ((i = .int .i64 0 ∧ n = .int .i64 0) ∨ (i = .int .i64 1 ∧ n = .int .i64 1) ∨ (i = .int .i64 2 ∧ n = .int .i64 2) ∨ (i = .int .i64 3 ∧ n = .int .i64 2)) ∧ Ext w wr) (fun _ i _ => 3 - (intOf i).toNat)
  case atStart => exact ⟨.inl ⟨rfl, rfl⟩, Ext.refl _⟩
  case round =>
    rename World => wr
    obtain ⟨h4, hx⟩ := hrel
    have HB2 := Lib.hid (HB.out.ext hx)
    have hs2 := hx.heap HS.out
    have HX := Lib.hid hx
    have nsr := heap_lt hs2
    clear hx
    rcases h4 with ⟨rfl, rfl⟩ | ⟨rfl, rfl⟩ | ⟨rfl, rfl⟩ | ⟨rfl, rfl⟩
    · have hld := sk_load (off := 0) (cs := [Value.int .i64 0, .int .i64 0, .int .i32 0, .int .i32 0, .bool false, .int .i32 0, .int .i32 0, .int .i32 0, .int .i32 0, .slice none 0 0, .int .i32 0, .int .i32 0, .int .i32 0, .int .i32 0]) hs2 rfl rfl
      obtain ⟨w6, hst6, h6, hx6⟩ := newSk wr [Value.int .i64 0, .int .i64 0, .int .i32 0, .int .i32 0, .bool false, .int .i32 0, .int .i32 0, .int .i32 0, .int .i32 0, .slice none 0 0, .int .i32 0, .int .i32 0, .int .i32 0, .int .i32 0] rfl (by simp [Value.oneCell'])
      have HX6 := Lib.hid (HX.out.trans hx6)
      have HB6 := Lib.hid (HB2.out.ext hx6)
      have e0 : w6.cell? ⟨wr.heap.size, 0, none⟩ = some (.int .i64 0) := cell_of_heap h6 rfl
      have e1 : w6.cell? ⟨wr.heap.size, 1, none⟩ = some (.int .i64 0) := cell_of_heap h6 rfl
      have n6 := heap_lt h6
      have HT := Lib.hid (tile_any p 20 5 _ _ 0 0 w6 HB6.out (by decide) (by decide))
      rw [show inB 20 5 0 0 = true from rfl] at HT
      clear h6 hx6
      go_wp2_with (go_at_call 8; refine HT.out.mono ?_; rintro _ _ ⟨rfl, rfl⟩)
      go_roundw
      case rel => exact ⟨.inr (.inl ⟨rfl, rfl⟩), HX6.out⟩
      case measure => simp [intOf]
    · have hld := sk_load (off := 14) (cs := [Value.int .i64 16, .int .i64 1, .int .i32 0, .int .i32 0, .bool false, .int .i32 0, .int .i32 0, .int .i32 0, .int .i32 0, .slice none 0 0, .int .i32 0, .int .i32 0, .int .i32 0, .int .i32 0]) hs2 rfl rfl
      obtain ⟨w6, hst6, h6, hx6⟩ := newSk wr [Value.int .i64 16, .int .i64 1, .int .i32 0, .int .i32 0, .bool false, .int .i32 0, .int .i32 0, .int .i32 0, .int .i32 0, .slice none 0 0, .int .i32 0, .int .i32 0, .int .i32 0, .int .i32 0] rfl (by simp [Value.oneCell'])
      have HX6 := Lib.hid (HX.out.trans hx6)
      have HB6 := Lib.hid (HB2.out.ext hx6)
      have e0 : w6.cell? ⟨wr.heap.size, 0, none⟩ = some (.int .i64 16) := cell_of_heap h6 rfl
      have e1 : w6.cell? ⟨wr.heap.size, 1, none⟩ = some (.int .i64 1) := cell_of_heap h6 rfl
      have n6 := heap_lt h6
      have HT := Lib.hid (tile_any p 20 5 _ _ 16 1 w6 HB6.out (by decide) (by decide))
      rw [show inB 20 5 16 1 = true from rfl] at HT
      clear h6 hx6
      go_wp2_with (go_at_call 8; refine HT.out.mono ?_; rintro _ _ ⟨rfl, rfl⟩)
      go_roundw
      case rel => exact ⟨.inr (.inr (.inl ⟨rfl, rfl⟩)), HX6.out⟩
      case measure => simp [intOf]
    · have hld := sk_load (off := 28) (cs := [Value.int .i64 20, .int .i64 0, .int .i32 0, .int .i32 0, .bool false, .int .i32 0, .int .i32 0, .int .i32 0, .int .i32 0, .slice none 0 0, .int .i32 0, .int .i32 0, .int .i32 0, .int .i32 0]) hs2 rfl rfl
      obtain ⟨w6, hst6, h6, hx6⟩ := newSk wr [Value.int .i64 20, .int .i64 0, .int .i32 0, .int .i32 0, .bool false, .int .i32 0, .int .i32 0, .int .i32 0, .int .i32 0, .slice none 0 0, .int .i32 0, .int .i32 0, .int .i32 0, .int .i32 0] rfl (by simp [Value.oneCell'])
      have HX6 := Lib.hid (HX.out.trans hx6)
      have HB6 := Lib.hid (HB2.out.ext hx6)
      have e0 : w6.cell? ⟨wr.heap.size, 0, none⟩ = some (.int .i64 20) := cell_of_heap h6 rfl
      have e1 : w6.cell? ⟨wr.heap.size, 1, none⟩ = some (.int .i64 0) := cell_of_heap h6 rfl
      have n6 := heap_lt h6
      have HT := Lib.hid (tile_any p 20 5 _ _ 20 0 w6 HB6.out (by decide) (by decide))
      rw [show inB 20 5 20 0 = false from rfl] at HT
      clear h6 hx6
      go_wp2_with (go_at_call 8; refine HT.out.mono ?_; rintro _ _ ⟨rfl, rfl⟩)
      go_roundw
      case rel => exact ⟨.inr (.inr (.inr ⟨rfl, rfl⟩)), HX6.out⟩
      case measure => simp [intOf]
    · have c3 : wr.cell? ⟨p, 3, none⟩ = some (.int .i64 0) := cell_of_heap HB2.out rfl
      have np2 := heap_lt HB2.out
      have HG2 := Lib.hid (HX.out.heap HG.out)
      have HS2 := Lib.hid hs2
      clear hs2 nsr
      go_wp2_with fail
      go_step3
      go_wp2_with fail
      go_loopw [47] (fun i wq => (∃ v v' : Value, wq.heap[g]? = some (.cells [v, v'].toArray 34 (0, 0)) ∧ ((i = .int .i64 0 ∧ v = .slice none 0 0 ∧ v' = .slice none 0 0) ∨ (i = .int .i64 1 ∧ v' = .slice none 0 0) ∨ i = .int .i64 2 ∨ i = .int .i64 3)) ∧ Chg [g] wr wq) (fun i _ => 3 - (intOf i).toNat)
      case atStart => exact ⟨⟨_, _, HG2.out, .inl ⟨rfl, rfl, rfl⟩⟩, Chg.refl _ _⟩
      case round =>
        rename World => wq
        obtain ⟨⟨v, v', hgq, h4⟩, hch⟩ := hrel
        have HB3 := Lib.hid (HB2.out.chg hch (by simp; exact hpg))
        have hs3 := hch.heap HS2.out (by simp; exact Ne.symm hgs)
        have HCH := Lib.hid hch
        have nsr := heap_lt hs3
        have hszq := hch.size
        clear hch
        rcases h4 with ⟨rfl, rfl, rfl⟩ | ⟨rfl, rfl⟩ | rfl | rfl
        · have hld := sk_load (off := 0) (cs := [Value.int .i64 0, .int .i64 0, .int .i32 0, .int .i32 0, .bool false, .int .i32 0, .int .i32 0, .int .i32 0, .int .i32 0, .slice none 0 0, .int .i32 0, .int .i32 0, .int .i32 0, .int .i32 0]) hs3 rfl rfl
          obtain ⟨w6, hst6, h6, hx6⟩ := newSk wq [Value.int .i64 0, .int .i64 0, .int .i32 0, .int .i32 0, .bool false, .int .i32 0, .int .i32 0, .int .i32 0, .int .i32 0, .slice none 0 0, .int .i32 0, .int .i32 0, .int .i32 0, .int .i32 0] rfl (by simp [Value.oneCell'])
          have HX6 := Lib.hid hx6
          have HB6 := Lib.hid (HB3.out.ext hx6)
          have e0 : w6.cell? ⟨wq.heap.size, 0, none⟩ = some (.int .i64 0) := cell_of_heap h6 rfl
          have e1 : w6.cell? ⟨wq.heap.size, 1, none⟩ = some (.int .i64 0) := cell_of_heap h6 rfl
          have n6 := heap_lt h6
          have HT : Hid (Calls Try.prog 8 #[.pointer (some ⟨p, 0, none⟩), .int .i64 0, .int .i64 0] w6 fun e w' => e = .returned (.tuple #[.int .i64 0, .int .i64 0]) ∧ w6 = w') := Lib.hid (tile_any p 20 5 _ _ 0 0 w6 HB6.out (by decide) (by decide))
          have e9 : w6.cell? ⟨wq.heap.size, 9, none⟩ = some (.slice none 0 0) := cell_of_heap h6 rfl
          have f9 : w6.frozen? ⟨wq.heap.size, 9, none⟩ = false := free_of_heap h6
          obtain ⟨w7, hw7⟩ : ∃ w7, w6.setCell ⟨wq.heap.size, 9, none⟩ (.slice none 0 0) = w7 := ⟨_, rfl⟩
          have h7 := heap_set (k := 9) (u := .slice none 0 0) h6
          have hx7 : Ext wq w7 := by rw [← hw7]; exact hx6.setCell (Nat.le_refl _) _
          rw [hw7] at h7
          have hb7 := HB3.out.ext hx7
          have c2 : w7.cell? ⟨p, 2, none⟩ = some (.slice (some ⟨g, 0, none⟩) 2 2) := cell_of_heap hb7 rfl
          have hg7 := hx7.heap hgq
          have cg : w7.cell? ⟨g, 0, none⟩ = some (.slice none 0 0) := cell_of_heap hg7 rfl
          have hl7 := sk_load (off := 0) (cs := [Value.int .i64 0, .int .i64 0, .int .i32 0, .int .i32 0, .bool false, .int .i32 0, .int .i32 0, .int .i32 0, .int .i32 0, .slice none 0 0, .int .i32 0, .int .i32 0, .int .i32 0, .int .i32 0]) h7 rfl rfl
          have hl8 := sk_load (w := w7.drew) (off := 0) (cs := [Value.int .i64 0, .int .i64 0, .int .i32 0, .int .i32 0, .bool false, .int .i32 0, .int .i32 0, .int .i32 0, .int .i32 0, .slice none 0 0, .int .i32 0, .int .i32 0, .int .i32 0, .int .i32 0]) h7 rfl rfl
          have n7 := heap_lt h7
          have ng7 := heap_lt hg7
          have np7 := heap_lt hb7
          have HG7 := Lib.hid hg7
          have HX7 := Lib.hid hx7
          clear h6 hx6 h7 hx7 hb7 hg7
          go_upto_region 19 with (first | (go_at_call 8; refine HT.out.mono ?_; rintro _ _ ⟨rfl, rfl⟩) | (go_at_call 21; refine (clone_nil _).mono ?_; rintro _ _ ⟨rfl, rfl⟩))
          clear e0 e1 e9 f9 hst6 hld hw7
          refine wp_region_noPanic ?_
          go_region_law
            ((refine step_append_lies _ (by rfl) _ _ _ (by rfl) 0 46 i0 (.agg #[Value.int .i64 0, .int .i64 0, .int .i32 0, .int .i32 0, .bool false, .int .i32 0, .int .i32 0, .int .i32 0, .int .i32 0, .slice none 0 0, .int .i32 0, .int .i32 0, .int .i32 0, .int .i32 0]) 14 88 Try.underlying34 hi hz0 hz1 hz2 (by rfl) (by decide) _ 0 _ (by rfl) (World.ownsRow_nil _ _ _ _) ⟨w7.heap.size, 0, none⟩ 1 1 [Value.int .i64 0, .int .i64 0, .int .i32 0, .int .i32 0, .bool false, .int .i32 0, .int .i32 0, .int .i32 0, .int .i32 0, .slice none 0 0, .int .i32 0, .int .i32 0, .int .i32 0, .int .i32 0] (by rfl) (by rfl) (World.news_of_block (heap_alloc_new _ _)) (by simp [Value.oneCell']) (by decide) (by decide) (by decide) (Nat.zero_le _) _ rfl ?_; intro gg cap2 w8 hown8 hgrow8 hat8 hlt8; have hx8 : Ext w7 w8 := Ext.grown (by first | exact (Ext.refl _).alloc _ | exact ((Ext.refl _).alloc _).drew | exact ((Ext.refl _).drew.alloc _) | exact ((Ext.refl _).drew.alloc _).drew) hgrow8 (fun k hk => by simp [Value.ownBlock] at hk); have y1 := hx8.cell cg; have y2 : w8.frozen? ⟨g, 0, none⟩ = false := free_of_heap (hx8.heap HG7.out); have y3 := heap_lt (hx8.heap HG7.out); have y4 := hx8.cell c2; have y5 := World.block_lt_of_cell? _ _ y4; have HX8 := Lib.hid hx8; clear hx8 hgrow8 hown8 hat8))
          all_goals refine NoPanic.normal ?_
          all_goals
            have h9 := heap_set (k := 0) (u := .slice (some ⟨gg, 0, none⟩) 1 cap2) (HX8.out.heap HG7.out)
            have H9 := Lib.hid h9
            have HC9 := Lib.hid (((HCH.out.trans (HX7.out.chg [g])).trans (HX8.out.chg [g])).setCell (p := ⟨g, 0, none⟩) (by simp) (.slice (some ⟨gg, 0, none⟩) 1 cap2))
            clear h9 y1 y2 y3 y4 y5
            go_wp2_with fail
            go_roundw
            case rel => exact ⟨⟨_, _, H9.out, .inr (.inl ⟨rfl, rfl⟩)⟩, HC9.out⟩
            case measure => simp [intOf]
        · have hld := sk_load (off := 14) (cs := [Value.int .i64 16, .int .i64 1, .int .i32 0, .int .i32 0, .bool false, .int .i32 0, .int .i32 0, .int .i32 0, .int .i32 0, .slice none 0 0, .int .i32 0, .int .i32 0, .int .i32 0, .int .i32 0]) hs3 rfl rfl
          obtain ⟨w6, hst6, h6, hx6⟩ := newSk wq [Value.int .i64 16, .int .i64 1, .int .i32 0, .int .i32 0, .bool false, .int .i32 0, .int .i32 0, .int .i32 0, .int .i32 0, .slice none 0 0, .int .i32 0, .int .i32 0, .int .i32 0, .int .i32 0] rfl (by simp [Value.oneCell'])
          have HX6 := Lib.hid hx6
          have HB6 := Lib.hid (HB3.out.ext hx6)
          have e0 : w6.cell? ⟨wq.heap.size, 0, none⟩ = some (.int .i64 16) := cell_of_heap h6 rfl
          have e1 : w6.cell? ⟨wq.heap.size, 1, none⟩ = some (.int .i64 1) := cell_of_heap h6 rfl
          have n6 := heap_lt h6
          have HT : Hid (Calls Try.prog 8 #[.pointer (some ⟨p, 0, none⟩), .int .i64 16, .int .i64 1] w6 fun e w' => e = .returned (.tuple #[.int .i64 1, .int .i64 0]) ∧ w6 = w') := Lib.hid (tile_any p 20 5 _ _ 16 1 w6 HB6.out (by decide) (by decide))
          have e9 : w6.cell? ⟨wq.heap.size, 9, none⟩ = some (.slice none 0 0) := cell_of_heap h6 rfl
          have f9 : w6.frozen? ⟨wq.heap.size, 9, none⟩ = false := free_of_heap h6
          obtain ⟨w7, hw7⟩ : ∃ w7, w6.setCell ⟨wq.heap.size, 9, none⟩ (.slice none 0 0) = w7 := ⟨_, rfl⟩
          have h7 := heap_set (k := 9) (u := .slice none 0 0) h6
          have hx7 : Ext wq w7 := by rw [← hw7]; exact hx6.setCell (Nat.le_refl _) _
          rw [hw7] at h7
          have hb7 := HB3.out.ext hx7
          have c2 : w7.cell? ⟨p, 2, none⟩ = some (.slice (some ⟨g, 0, none⟩) 2 2) := cell_of_heap hb7 rfl
          have hg7 := hx7.heap hgq
          have cg : w7.cell? ⟨g, 1, none⟩ = some (.slice none 0 0) := cell_of_heap hg7 rfl
          have hl7 := sk_load (off := 0) (cs := [Value.int .i64 16, .int .i64 1, .int .i32 0, .int .i32 0, .bool false, .int .i32 0, .int .i32 0, .int .i32 0, .int .i32 0, .slice none 0 0, .int .i32 0, .int .i32 0, .int .i32 0, .int .i32 0]) h7 rfl rfl
          have hl8 := sk_load (w := w7.drew) (off := 0) (cs := [Value.int .i64 16, .int .i64 1, .int .i32 0, .int .i32 0, .bool false, .int .i32 0, .int .i32 0, .int .i32 0, .int .i32 0, .slice none 0 0, .int .i32 0, .int .i32 0, .int .i32 0, .int .i32 0]) h7 rfl rfl
          have n7 := heap_lt h7
          have ng7 := heap_lt hg7
          have np7 := heap_lt hb7
          have HG7 := Lib.hid hg7
          have HX7 := Lib.hid hx7
          clear h6 hx6 h7 hx7 hb7 hg7
          go_upto_region 19 with (first | (go_at_call 8; refine HT.out.mono ?_; rintro _ _ ⟨rfl, rfl⟩) | (go_at_call 21; refine (clone_nil _).mono ?_; rintro _ _ ⟨rfl, rfl⟩))
          clear e0 e1 e9 f9 hst6 hld hw7
          refine wp_region_noPanic ?_
          go_region_law
            ((refine step_append_lies _ (by rfl) _ _ _ (by rfl) 0 46 i0 (.agg #[Value.int .i64 0, .int .i64 0, .int .i32 0, .int .i32 0, .bool false, .int .i32 0, .int .i32 0, .int .i32 0, .int .i32 0, .slice none 0 0, .int .i32 0, .int .i32 0, .int .i32 0, .int .i32 0]) 14 88 Try.underlying34 hi hz0 hz1 hz2 (by rfl) (by decide) _ 0 _ (by rfl) (World.ownsRow_nil _ _ _ _) ⟨w7.heap.size, 0, none⟩ 1 1 [Value.int .i64 16, .int .i64 1, .int .i32 0, .int .i32 0, .bool false, .int .i32 0, .int .i32 0, .int .i32 0, .int .i32 0, .slice none 0 0, .int .i32 0, .int .i32 0, .int .i32 0, .int .i32 0] (by rfl) (by rfl) (World.news_of_block (heap_alloc_new _ _)) (by simp [Value.oneCell']) (by decide) (by decide) (by decide) (Nat.zero_le _) _ rfl ?_; intro gg cap2 w8 hown8 hgrow8 hat8 hlt8; have hx8 : Ext w7 w8 := Ext.grown (by first | exact (Ext.refl _).alloc _ | exact ((Ext.refl _).alloc _).drew | exact ((Ext.refl _).drew.alloc _) | exact ((Ext.refl _).drew.alloc _).drew) hgrow8 (fun k hk => by simp [Value.ownBlock] at hk); have y1 := hx8.cell cg; have y2 : w8.frozen? ⟨g, 1, none⟩ = false := free_of_heap (hx8.heap HG7.out); have y3 := heap_lt (hx8.heap HG7.out); have y4 := hx8.cell c2; have y5 := World.block_lt_of_cell? _ _ y4; have HX8 := Lib.hid hx8; clear hx8 hgrow8 hown8 hat8))
          all_goals refine NoPanic.normal ?_
          all_goals
            have h9 := heap_set (k := 1) (u := .slice (some ⟨gg, 0, none⟩) 1 cap2) (HX8.out.heap HG7.out)
            have H9 := Lib.hid h9
            have HC9 := Lib.hid (((HCH.out.trans (HX7.out.chg [g])).trans (HX8.out.chg [g])).setCell (p := ⟨g, 1, none⟩) (by simp) (.slice (some ⟨gg, 0, none⟩) 1 cap2))
            clear h9 y1 y2 y3 y4 y5
            go_wp2_with fail
            go_roundw
            case rel => exact ⟨⟨_, _, H9.out, .inr (.inr (.inl rfl))⟩, HC9.out⟩
            case measure => simp [intOf]
        · have hld := sk_load (off := 28) (cs := [Value.int .i64 20, .int .i64 0, .int .i32 0, .int .i32 0, .bool false, .int .i32 0, .int .i32 0, .int .i32 0, .int .i32 0, .slice none 0 0, .int .i32 0, .int .i32 0, .int .i32 0, .int .i32 0]) hs3 rfl rfl
          obtain ⟨w6, hst6, h6, hx6⟩ := newSk wq [Value.int .i64 20, .int .i64 0, .int .i32 0, .int .i32 0, .bool false, .int .i32 0, .int .i32 0, .int .i32 0, .int .i32 0, .slice none 0 0, .int .i32 0, .int .i32 0, .int .i32 0, .int .i32 0] rfl (by simp [Value.oneCell'])
          have HX6 := Lib.hid hx6
          have HB6 := Lib.hid (HB3.out.ext hx6)
          have e0 : w6.cell? ⟨wq.heap.size, 0, none⟩ = some (.int .i64 20) := cell_of_heap h6 rfl
          have e1 : w6.cell? ⟨wq.heap.size, 1, none⟩ = some (.int .i64 0) := cell_of_heap h6 rfl
          have n6 := heap_lt h6
          have HT : Hid (Calls Try.prog 8 #[.pointer (some ⟨p, 0, none⟩), .int .i64 20, .int .i64 0] w6 fun e w' => e = .returned (.tuple #[.int .i64 0, .int .i64 2]) ∧ w6 = w') := Lib.hid (tile_any p 20 5 _ _ 20 0 w6 HB6.out (by decide) (by decide))
          clear h6 hx6
          go_wp2_with (go_at_call 8; refine HT.out.mono ?_; rintro _ _ ⟨rfl, rfl⟩)
          go_roundw
          case rel => exact ⟨⟨_, _, HX6.out.heap hgq, .inr (.inr (.inr rfl))⟩, HCH.out.trans (HX6.out.chg _)⟩
          case measure => simp [intOf]
        · have c3 : wq.cell? ⟨p, 3, none⟩ = some (.int .i64 0) := cell_of_heap HB3.out rfl
          have f3 : wq.frozen? ⟨p, 3, none⟩ = false := free_of_heap HB3.out
          have np3 := heap_lt HB3.out
          have h9 := heap_set (k := 3) (u := .int .i64 2) HB3.out
          have H9 := Lib.hid h9
          have HC9 := Lib.hid ((((HX.out.chg [p, g]).trans (HCH.out.mono (by simp))).setCell (p := ⟨p, 3, none⟩) (by simp) (.int .i64 2)))
          clear h9
          go_wp2_with fail
          simp only [Exit.noGoto]
          go_ret
          exact ⟨rfl, H9.out, HC9.out⟩
end Go.Proofs.Ytocdkdkiiammfaa
namespace Go.Proofs.Ytocdkdkiiammfaa
open Go.RowKit
set_option linter.unusedVariables false
set_option maxRecDepth 100000

set_option maxRecDepth 100000 in
set_option maxHeartbeats 2000000 in
theorem wakes_any (w : World) : Calls Try.prog 5 #[] w fun e w' => e = .returned (.bool true) ∧ Ext w w' := by
  go_enter Try.func5, Try.ntmps5
  go_upto_region 4 with (first | (go_at_call 6; refine (new_any 20 5 (by decide) (by decide) (by decide) (by decide) _).mono ?_; rintro _ w1 ⟨p, g, rfl, hg0, hgp, hb, hg, hx1⟩; have HB := Lib.hid hb; have HG := Lib.hid hg; have HX1 := Lib.hid hx1; clear hb hg hx1) | (go_at_call 11; refine (tiles_any p 20 5 2 _ _ _ _ HB.out).mono ?_; rintro _ _ ⟨rfl, rfl⟩))
  have HS := Lib.hid (heap_alloc_new w1 (.cells skL.toArray 46))
  have n1 := heap_lt HB.out
  have n2 := heap_lt HG.out
  have HADD := Lib.hid (add_wake p g w1.heap.size _ (HB.out.ext ((Ext.refl _).alloc (.cells skL.toArray 46))) (((Ext.refl _).alloc _).heap HG.out) HS.out (by omega) (by omega) (by omega))
  go_wp2_with (first | (go_at_call 13; refine HADD.out.mono ?_; rintro _ w2 ⟨rfl, hb2, hc2⟩; have HB2 := Lib.hid hb2; have HX2 := Lib.hid ((HX1.out.alloc (.cells skL.toArray 46)).chgTrans hc2 (by simp; omega)); have HT : Hid (Calls Try.prog 8 #[.pointer (some ⟨p, 0, none⟩), .int .i64 16, .int .i64 0] w2 fun e w' => e = .returned (.tuple #[.int .i64 1, .int .i64 0]) ∧ w2 = w') := Lib.hid (tile_any p 20 5 _ _ 16 0 w2 hb2 (by decide) (by decide)); clear hb2 hc2) | (go_at_call 8; refine HT.out.mono ?_; rintro _ _ ⟨rfl, rfl⟩) | (go_at_call 15; refine (len_any p 20 5 _ _ _ HB2.out).mono ?_; rintro _ _ ⟨rfl, rfl⟩))
  go_ret
  exact ⟨rfl, HX2.out⟩
end Go.Proofs.Ytocdkdkiiammfaa
