/- Clones of colours; what a tile's list tells. Conditions: each theorem's own premises. -/
import Derived.Test.YtocdkdkiiammfaaBin4
import Derived.Test.YtocdkdkiiammfaaRgs
namespace Go.Proofs.Ytocdkdkiiammfaa
open Go.RowKit
set_option linter.unusedVariables false
set_option maxRecDepth 100000
attribute [local go_sem ↓] Ld_Sk St_Sk

set_option maxHeartbeats 2000000 in
theorem clonev_any (u : Value) (l : List V4) (w : World) (h : SlC w u 4 l.length (v4s l)) (hb : l.length ≤ 1000) : Calls Try.prog 21 #[u] w fun e w' => ∃ v', e = .returned v' ∧ w'.ownsRow w.heap.size 41 4 v' l.length (v4s l) ∧ Ext w w' := by
  obtain ⟨j0, hj, hy0, hy1, hy2⟩ := info_parts info_vec5
  have H := Lib.hid h
  have HVO := Lib.hid (v4s_one l)
  obtain ⟨hlen, a, cap, rfl, hn, hc, hz, hp⟩ := h
  have q22 : ∀ (w : World) (a : Option Addr) (n c n' c' : Nat), (binOp .eql 42 (.slice a n c) (.slice none n' c')).run Try.prog w = .ok (.bool a.isNone) w := fun w a n c n' c' => Lib.run_eql_slice_nil w _ _ a n c n' c' Try.underlying42
  cases a with
  | none =>
    have hl0 : l.length = 0 := by have := hz rfl; omega
    obtain rfl : l = [] := List.eq_nil_of_length_eq_zero hl0
    obtain rfl : cap = 0 := hz rfl
    clear hlen hp H HVO hz
    go_enter Try.func21, Try.ntmps21
    go_wp2
    go_ret
    exact ⟨_, rfl, World.ownsRow_nil _ _ _ _, Ext.refl _⟩
  | some ad =>
    clear hlen hp hz
    have H2 := Lib.hid (H.out.ext ((Ext.refl _).alloc (.cells #[] 41)))
    generalize v4s l = news at *
    generalize l.length = m at *
    go_enter Try.func21, Try.ntmps21
    go_wp2_with (at_builtin; refine wpList_append_all rfl _ _ 42 rfl w.heap.size 41 j0 (.agg #[.int .i32 0, .int .i32 0, .int .i32 0, .int .i32 0]) 4 16 Try.underlying42 hj hy0 hy1 hy2 rfl (by decide) _ _ _ rfl (World.ownsRow_made w #[] 0 (Nat.le_refl _) (Nat.zero_le _) (by simp)) m _ news rfl H2.out HVO.out ?c4 ?c5 ?c6 ?_)
    case c4 => unfold maxLen; omega
    case c5 => omega
    case c6 => simp
    intro v' w7 hown hgrow
    have hx67 : Ext w w7 := ((Ext.refl w).alloc _).grown hgrow (by intro k hk; simp [Value.ownBlock] at hk; omega)
    have HX := Lib.hid hx67
    have HO : Hid (w7.ownsRow w.heap.size 41 4 v' m news) := Lib.hid (by simpa using hown)
    clear hx67 hown hgrow
    go_wp2_with fail
    go_ret
    exact ⟨_, rfl, HO.out, HX.out⟩
/-- What a list's function value reads between two rounds. -/
def lS (cb : Nat) (lv : Value) (L : List (Sk × Value)) (k : Nat) : Prop := k = cb ∨ lv.ownBlock = some k ∨ ∃ q ∈ L, q.2.ownBlock = some k
/-- What is told in round k. -/
def lG (n0 : Nat) (L : List (Sk × Value)) (k : Nat) (args : Array Value) (W : World) : Prop :=
  ∃ q vs, L[k]? = some q ∧ args = #[.int .i64 k, .agg (skC (q.1, vs)).toArray] ∧ W.ownsRow n0 41 4 vs q.1.vars.length (v4s q.1.vars)
theorem SksAt.kept {w w' : World} {cb : Nat} {lv : Value} {L : List (Sk × Value)} (h : SksAt w lv L) (k : Kept (lS cb lv L) w w') : SksAt w' lv L :=
  ⟨h.1.kept k (fun b hb _ => .inr (.inl hb)), fun q hq => (h.2 q hq).kept k (fun b hb _ => .inr (.inr ⟨q, hq, hb⟩))⟩
set_option maxHeartbeats 4000000 in
theorem list_tells (cb : Nat) (lv : Value) (L : List (Sk × Value)) (w : World) (hcb : w.heap[cb]? = some (.cells #[lv] 34 (0, 0))) (h : SksAt w lv L) (hv : ∀ q ∈ L, q.1.vars.length ≤ 1000) :
    Tells Try.prog 23 #[.pointer (some ⟨cb, 0, none⟩)] L.length (lS cb lv L) (lG w.heap.size L) w := by
  intro lp J Jx W hW hJ hJx hY h0
  have HCB := Lib.hid hcb
  have HL := Lib.hid h
  have HV := Lib.hid hv
  have HW := Lib.hid hW
  have hws := hW.size
  obtain ⟨⟨_, a, cap, rfl, hn, hc, _, _⟩, _⟩ := h
  have e0 : W.cell? ⟨cb, 0, none⟩ = some (.slice a L.length cap) := cell_of_heap ((show Ext w W from hW).heap hcb) rfl
  have n0 := heap_lt ((show Ext w W from hW).heap hcb)
  clear hW hv hcb
  refine callsIn_of_wp Try.func23 rfl trivial ?_ rfl
  refine (wpIn_wide (n := 8)).2 ?_
  simp only [Try.ntmps23, List.size_toArray, List.length_cons, List.length_nil, Nat.reduceAdd, Nat.reduceSub, Array.replicate_succ, Array.replicate_zero, List.push_toArray, List.append_toArray, List.nil_append, List.cons_append]
  go_wp2_with fail
  go_loopw [7] (fun i wr => ∃ k : Nat, k ≤ L.length ∧ i = .int .i64 k ∧ Hid (J k wr ∧ Kept (lS cb (.slice a L.length cap) L) w wr ∧ Ext w W)) (fun i _ => (L.length - (intOf i).toNat))
  case atStart => exact ⟨0, Nat.zero_le _, rfl, Lib.hid ⟨h0, Ext.kept (show Ext w W from HW.out), HW.out⟩⟩
  case round =>
    obtain ⟨k, hk, rfl, HH⟩ := hrel
    have hll := HL.out.kept HH.out.2.1
    have HLL := Lib.hid hll
    have hwr := HH.out.2.1.1
    by_cases hlt : k < L.length
    · obtain ⟨q, hq⟩ : ∃ q, L[k]? = some q := ⟨_, List.getElem?_eq_getElem hlt⟩
      have HQ := Lib.hid hq
      have hqm := List.mem_of_getElem? hq
      have HQV := Lib.hid (hll.2 q hqm)
      have hqb := HV.out q hqm
      obtain ⟨b, off, rfl, hb, hcell⟩ := hll.1.pos (by omega)
      obtain ⟨⟨x, y, z, iw, fb, ⟨p0, p1, p2, p3⟩, l, ⟨c0, c1, c2, c3⟩⟩, vv⟩ := q
      have HAT := Lib.hid (sks_at L k _ hq)
      obtain ⟨_, va, vc, hve, hvn, hvc, _, _⟩ := HQV.out
      simp only at hve hvn HQV hqb
      subst hve
      have hld : (@Classical.epsilon _ neF (LdF 46 (.pointer (some ⟨b, off + k * 14, none⟩)))).run Try.prog wr = .ok (.agg #[.int .i64 x, .int .i64 y, .int .i32 z, .int .i32 iw, .bool fb, .int .i32 p0, .int .i32 p1, .int .i32 p2, .int .i32 p3, .slice va l.length vc, .int .i32 c0, .int .i32 c1, .int .i32 c2, .int .i32 c3]) wr :=
        ldF_ok (cs := [.int .i64 x, .int .i64 y, .int .i32 z, .int .i32 iw, .bool fb, .int .i32 p0, .int .i32 p1, .int .i32 p2, .int .i32 p3, .slice va l.length vc, .int .i32 c0, .int .i32 c1, .int .i32 c2, .int .i32 c3]) _ (fun j u hu => by
          have hj14 : j < 14 := (List.getElem?_eq_some_iff.1 hu).1
          have := hcell (k * 14 + j) u ((HAT.out j hj14).trans hu)
          rw [← Nat.add_assoc] at this
          exact this) Try.underlying46 rfl info_sk
      obtain ⟨w6, hst6, h6, hx6⟩ := newSk wr [.int .i64 x, .int .i64 y, .int .i32 z, .int .i32 iw, .bool fb, .int .i32 p0, .int .i32 p1, .int .i32 p2, .int .i32 p3, .slice va l.length vc, .int .i32 c0, .int .i32 c1, .int .i32 c2, .int .i32 c3] rfl (by simp [Value.oneCell'])
      have hki : (k : Int) < (L.length : Int) := by omega
      have hmx : (L.length : Int) ≤ 9223372036854775807 := by unfold maxLen at hc; omega
      have e9 : w6.cell? ⟨wr.heap.size, 9, none⟩ = some (.slice va l.length vc) := cell_of_heap h6 rfl
      have n6 := heap_lt h6
      have H6 := Lib.hid h6
      have HX6 := Lib.hid hx6
      have hs6 := hx6.size
      have HCL := Lib.hid (clonev_any _ l w6 (HQV.out.ext hx6) hqb)
      clear hcell h6 hx6 hq hll hqm
      go_upto_region 4 with (go_at_call 21; refine HCL.out.mono ?_; rintro _ w7 ⟨v7, rfl, hown7, hx7⟩; obtain ⟨a7, c7, rfl⟩ := ownsB_slice hown7; have h7 := hx7.heap H6.out; have f9 : w7.frozen? ⟨wr.heap.size, 9, none⟩ = false := free_of_heap h7; have e9' : w7.cell? ⟨wr.heap.size, 9, none⟩ = some (.slice va l.length vc) := cell_of_heap h7 rfl; have n7 := heap_lt h7)
      obtain ⟨w8, hw8⟩ : ∃ w8, w7.setCell ⟨wr.heap.size, 9, none⟩ (.slice a7 l.length c7) = w8 := ⟨_, rfl⟩
      rw [hw8]
      have h8 := heap_set (k := 9) (u := .slice a7 l.length c7) h7
      have hx8 : Ext wr w8 := by rw [← hw8]; exact (HX6.out.trans hx7).setCell (Nat.le_refl _) _
      rw [hw8] at h8
      have hown8 : w8.ownsRow w.heap.size 41 4 (.slice a7 l.length c7) l.length (v4s l) := by
        rw [← hw8]
        exact owns_mono (owns_chg (M := [wr.heap.size]) hown7 ((Chg.refl _ _).setCell (p := ⟨wr.heap.size, 9, none⟩) (by simp) _) (fun b hb => by have := owns_base hown7 b hb; simp; omega)) (by omega)
      have hl8 := sk_load (off := 0) (cs := [.int .i64 x, .int .i64 y, .int .i32 z, .int .i32 iw, .bool fb, .int .i32 p0, .int .i32 p1, .int .i32 p2, .int .i32 p3, .slice a7 l.length c7, .int .i32 c0, .int .i32 c1, .int .i32 c2, .int .i32 c3]) h8 rfl rfl
      have n8 := heap_lt h8
      have hj8 : J k w8 := hJ _ _ _ HH.out.1 hx8
      obtain ⟨fn, tmps, assign, body, hy, hR⟩ := hY k #[.int .i64 k, .agg #[.int .i64 x, .int .i64 y, .int .i32 z, .int .i32 iw, .bool fb, .int .i32 p0, .int .i32 p1, .int .i32 p2, .int .i32 p3, .slice a7 l.length c7, .int .i32 c0, .int .i32 c1, .int .i32 c2, .int .i32 c3]] w8 hlt hj8 ⟨_, _, HQ.out, rfl, hown8⟩
      have HXC := Lib.hid (HH.out.2.1.trans hx8.kept)
      clear h8 hx8 hown8 hown7 hx7 h7 e9 e9' f9 hw8 hj8 hY hst6 hld HCL HAT HQV
      refine (wpIn_wide (n := 8)).1 ?_
      gi_wp2
      refine hR.mono ?_
      rintro e W3 (⟨rfl, hj3, hk3⟩ | ⟨rfl, hj3⟩)
      · have HX3 := Lib.hid (HXC.out.trans hk3)
        have HJ3 := Lib.hid hj3
        clear hk3 hj3 hR hy hl8
        gi_wp2
        go_wp2_with fail
        go_roundw
        case rel => exact ⟨k + 1, by omega, by go_num, Lib.hid ⟨HJ3.out, HX3.out, HH.out.2.2⟩⟩
        case measure => simp [intOf]; omega
      · clear hR hy
        gi_wp2
        go_wp2_with fail
        refine bodyPost_ret (results_none rfl _ _ _) rfl ?_
        exact ⟨⟨_, rfl⟩, .inr hj3⟩
    · have hkN : k = L.length := by omega
      subst hkN
      go_wp2_with fail
      go_end0
      exact ⟨⟨_, rfl⟩, .inl HH.out.1⟩
end Go.Proofs.Ytocdkdkiiammfaa
