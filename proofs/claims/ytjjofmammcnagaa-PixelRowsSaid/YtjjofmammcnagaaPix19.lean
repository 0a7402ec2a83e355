/- The walk of PixelRows. Conditions: each theorem's own premises. -/
import Derived.Test.YtjjofmammcnagaaPix18
import Derived.Laws.AppendOwnNone
namespace Go.Proofs.Ytjjofmammcnagaa
open Go.RowKit
set_option linter.unusedVariables false
attribute [local go_sem] eq_vec

/-- append to a row of one's own, whatever slice is appended. -/
theorem wpList_append_all {P : Program} {w : World} {ops : Array Oper} {rest : List Oper} {o : Oper} {a : Act} {Q : Exit → Act → World → Prop} (hgd : o.guard = none) (s x : Operand) (t : TypeId)
    (ho : o.op = .call { callee := .builtin .append, args := #[s, x], argTypes := #[t, t] })
    (base : Nat) (e : TypeId) (i : TypeInfo) (z : Value) (size bytes : Nat) (ht : P.underlying t = some (.slice e)) (hi : P.info? e = some i) (hz : i.zero = some z)
    (hsize : i.size = size) (hby : i.bytes = bytes) (hzs : z.cells.size = size) (hsz : 0 < size)
    (v : Value) (n : Nat) (xs : List Value) (hs : a.eval s = v) (hown : w.ownsRow base e size v n xs)
    (m : Nat) (u : Value) (news : List Value) (hx : a.eval x = u) (hu : SlC w u size m news) (h1 : ∀ u ∈ news, u.oneCell' = true)
    (h63 : n + m ≤ maxLen) (hbytes : (n + m) * bytes ≤ 140737488355328) (hbase : base ≤ w.heap.size)
    (h : ∀ v' w', w'.ownsRow base e size v' (n + m) (xs ++ news) → w.grownBy w' v.ownBlock → wpList P ops Q rest (a.put o.dst v') w') : wpList P ops Q (o :: rest) a w := by
  obtain ⟨hlen, ad, cap, rfl, hn, hc, hz0, hp⟩ := hu
  cases ad with
  | none =>
    have hcap := hz0 rfl
    subst hcap
    obtain rfl : m = 0 := by omega
    have hnil : news = [] := List.eq_nil_of_length_eq_zero (by simpa using hlen)
    subst hnil
    exact wpList_append_own_none hgd s x t ho base e i size ht hi v n xs hs hown hx (h v w (by simpa using hown) ⟨rfl, rfl, rfl, Nat.le_refl _, fun _ _ _ => rfl⟩)
  | some d =>
    refine wpList_append_own w hgd s x t ho base e i z size bytes ht hi hz hsize hby hzs hsz v n xs hs hown d m cap news hx hlen (fun j y hj => ?_) h1 h63 hbytes hbase (fun v' w' a1 a2 _ => h v' w' a1 a2)
    have hlt := (List.getElem?_eq_some_iff.1 hj).1
    have hm0 : 0 < m := by
      rcases Nat.eq_zero_or_pos m with h0 | h0
      · subst h0; rw [Nat.zero_mul] at hlen; omega
      · exact h0
    obtain ⟨b, off, hd, _, hcell⟩ := hp hm0
    simp only [Option.some.injEq] at hd
    subst hd
    rw [Addr.add_lit]
    exact hcell j y hj

theorem vecs_one (L : List (List Int)) : ∀ u ∈ vecsC L, u.oneCell' = true := by
  intro u hu
  unfold vecsC at hu
  obtain ⟨c, _, hc⟩ := List.mem_flatMap.1 hu
  obtain ⟨x, _, rfl⟩ := List.mem_map.1 hc
  rfl
theorem vecs_len (L : List (List Int)) (h : ∀ c ∈ L, VecOk c) : (vecsC L).length = L.length * 4 := by
  induction L with
  | nil => rfl
  | cons c L ih =>
    have := (h c (by simp)).1
    unfold vecsC at *
    rw [List.flatMap_cons, List.length_append, ih (fun c hc => h c (by simp [hc])), List.length_map, List.length_cons]
    omega

theorem layCut {k : IntKind} {w : World} {a : Option Addr} {n cap : Nat} {zs : List Int} (h : Ints k w (.slice a n cap) zs) (l r : Nat) (hl : l ≤ r) (hr : r ≤ n) : Ints k w (.slice (if cap = l then a else a.map (·.add l)) (r - l) (cap - l)) ((zs.drop l).take (r - l)) := by
  obtain ⟨rfl, _⟩ := h.cap
  exact h.cut l r hl hr
theorem layB_len (n : Nat) (L : List (List Int)) : (layB n L).length = L.length * szN n := by
  induction L with
  | nil => simp [layB]
  | cons c L ih =>
    unfold layB at *
    rw [List.flatMap_cons, List.length_append, ih, lowB_length, List.length_cons, Nat.succ_mul]
    omega
theorem layB_wf (n : Nat) (L : List (List Int)) : ∀ z ∈ layB n L, (Lit.int .u8 z).wf = true := by
  intro z hz
  unfold layB at hz
  obtain ⟨c, _, hc⟩ := List.mem_flatMap.1 hz
  exact lowB_wf _ _ z hc
theorem layB_chunk (n : Nat) (L : List (List Int)) (m : Nat) (c : List Int) (h : L[m]? = some c) : ((layB n L).drop (m * szN n)).take (szN n) = lowB (packX n c) (szN n) := by
  have e1 : L = L.take m ++ c :: L.drop (m + 1) := by
    have hlt := (List.getElem?_eq_some_iff.1 h).1
    have hc : L[m] = c := by rw [List.getElem?_eq_getElem hlt] at h; simpa using h
    rw [← hc, ← List.drop_eq_getElem_cons hlt, List.take_append_drop]
  have hl : (layB n (L.take m)).length = m * szN n := by
    rw [layB_len, List.length_take, Nat.min_eq_left (Nat.le_of_lt (List.getElem?_eq_some_iff.1 h).1)]
  have e2 : layB n L = layB n (L.take m) ++ (lowB (packX n c) (szN n) ++ layB n (L.drop (m + 1))) := by
    conv => lhs; rw [e1]
    unfold layB
    rw [List.flatMap_append, List.flatMap_cons]
  rw [e2, ← hl, List.drop_left', List.take_left']
  · exact lowB_length _ _
  · rfl

set_option maxHeartbeats 8000000 in
set_option maxRecDepth 20000 in
theorem rows_bad (n : Int) (a a2 : Option Addr) (cap cap2 : Nat) (zs : List Int) (L : List (List Int)) (w : World) (HH : Hid (Ints .u8 w (.slice a zs.length cap) zs)) (HK : Hid (SlC w (.slice a2 L.length cap2) 4 L.length (vecsC L))) (hbig : ¬ 5000 < zs.length) (hbig2 : ¬ 2000 < L.length) (hbad : n < 1 ∨ 8 ≤ n) : Calls Try.prog 7 #[.int .i64 n, .slice a zs.length cap, .slice a2 L.length cap2] w fun e w' => e = .returned (.bool true) ∧ Ext w w' := by
  obtain ⟨i0, hi, hz0, hz1, hz2⟩ := info_parts info_u8
  obtain ⟨j0, hj, hy0, hy1, hy2⟩ := info_parts info_vec3
  have hb' : ¬ (5000 : Int) < (zs.length : Int) := by omega
  have hb2 : ¬ (2000 : Int) < (L.length : Int) := by omega
  have hwf := Lib.hid HH.out.2
  have HR := Lib.hid (fun v w => row_bad n v w hbad)
  have HL := Lib.hid (fun v w => lay_bad n v w hbad)
  have HZ := Lib.hid (fun w => refSize_any n w)
  rw [show szV n = 0 by unfold szV; rw [if_neg (by omega), if_neg (by omega), if_neg (by omega)]] at HZ
  clear hbad
  go_enter Try.func7, Try.ntmps7
  go_wp2_with (first | (go_at_call 9; refine (wakes_any _).mono ?_; rintro e w1 ⟨rfl, hx1⟩) | (at_builtin; refine wpList_append_all rfl _ _ 22 rfl w1.heap.size 5 i0 (.int .u8 0) 1 1 Try.underlying22 hi hz0 hz1 hz2 rfl (by decide) _ _ _ rfl (World.ownsRow_made w1 #[] 0 (Nat.le_refl _) (Nat.zero_le _) (by simp)) zs.length _ (zs.map (Value.int .u8)) rfl (HH.out.1.ext (hx1.alloc _)) int_one ?c4 ?c5 ?c6 ?_))
  case c4 => unfold maxLen; omega
  case c5 => omega
  case c6 => simp
  intro v' w2 hown hgrow
  have hx2 := Lib.hid ((hx1.alloc _).grown hgrow (by intro k hk; simp [Value.ownBlock] at hk; have := hx1.size; omega))
  have hvs := Lib.hid (Ints.owned (show w2.ownsRow w1.heap.size 5 1 v' zs.length (zs.map (Value.int .u8)) by simpa using hown) hwf.out)
  clear hown hgrow
  go_wp2_with (first | (go_at_call 21; refine (HR.out _ _).mono ?_; rintro e w3 ⟨rfl, hx3'⟩; have hx3 := Lib.hid (hx2.out.trans hx3'); clear hx3') | (at_builtin; refine wpList_append_all rfl _ _ 48 rfl w3.heap.size 26 j0 (.agg #[.int .i32 0, .int .i32 0, .int .i32 0, .int .i32 0]) 4 16 Try.underlying48 hj hy0 hy1 hy2 rfl (by decide) _ _ _ rfl (World.ownsRow_made w3 #[] 0 (Nat.le_refl _) (Nat.zero_le _) (by simp)) L.length _ (vecsC L) rfl (HK.out.ext (hx3.out.alloc _)) (vecs_one L) ?c4 ?c5 ?c6 ?_))
  case c4 => unfold maxLen; omega
  case c5 => omega
  case c6 => simp
  intro u' w4 hown4 hgrow4
  have hx4 := Lib.hid ((hx3.out.alloc _).grown hgrow4 (by intro k hk; simp [Value.ownBlock] at hk; have := hx3.out.size; omega))
  have hus := Lib.hid (SlC.owned (show w4.ownsRow w3.heap.size 26 4 u' L.length (vecsC L) by simpa using hown4))
  clear hown4
  go_wp2_with (first | (go_at_call 22; refine (HL.out _ _).mono ?_; rintro e w5 ⟨rfl, hx5⟩) | (go_at_call 11; refine (HZ.out _).mono ?_; rintro e w6 ⟨rfl, rfl⟩))
  go_ret
  exact ⟨rfl, hx4.out.trans hx5⟩

set_option maxHeartbeats 8000000 in
set_option maxRecDepth 20000 in
theorem rows_short (k : Nat) (a a2 : Option Addr) (cap cap2 : Nat) (zs : List Int) (L : List (List Int)) (w : World) (HH : Hid (Ints .u8 w (.slice a zs.length cap) zs)) (HK : Hid (SlC w (.slice a2 L.length cap2) 4 L.length (vecsC L))) (hv : ∀ c ∈ L, VecOk c) (hbig : ¬ 5000 < zs.length) (hbig2 : ¬ 2000 < L.length) (h1 : 1 ≤ k) (h7 : k ≤ 7) (hl : zs.length % szN k ≠ 0) : Calls Try.prog 7 #[.int .i64 (k : Int), .slice a zs.length cap, .slice a2 L.length cap2] w fun e w' => e = .returned (.bool true) ∧ Ext w w' := by
  obtain ⟨i0, hi, hz0, hz1, hz2⟩ := info_parts info_u8
  obtain ⟨j0, hj, hy0, hy1, hy2⟩ := info_parts info_vec3
  have hb' : ¬ (5000 : Int) < (zs.length : Int) := by omega
  have hb2 : ¬ (2000 : Int) < (L.length : Int) := by omega
  have hwf := Lib.hid HH.out.2
  have HR := Lib.hid (fun v w (h : Ints .u8 w v zs) => row_short k v zs w h1 h7 h hl)
  have HL := Lib.hid (fun v w (h : SlC w v 4 L.length (vecsC L)) => lay_any k v L w h1 h7 h hv (by omega))
  have HZ := Lib.hid (fun w => refSize_any k w)
  have HLW := Lib.hid (layB_wf k L)
  have HCH := Lib.hid (layB_chunk k L)
  have HPK := Lib.hid (fun c (hc : VecOk c) w => refpack_any k c w h1 h7 hc.1 hc.2)
  have hs := szN_bd k
  rw [szN_V k h1 h7] at HZ
  generalize layB k L = BB at *
  generalize szN k = S at *
  have hS0 : ((S : Int) == 0) = false := by simp; omega
  have hS1 : ¬ (S : Int) = 0 := by omega
  have hr2 : ((zs.length : Int).tmod (S : Int) != 0) = true := by
    rw [Int.tmod_eq_emod_of_nonneg (by omega)]
    have : ¬ (zs.length : Int) % (S : Int) = 0 := by omega
    simpa using this
  have hr1 : ((zs.length : Int) % (S : Int) != 0) = true := by
    have : ¬ (zs.length : Int) % (S : Int) = 0 := by omega
    simpa using this
  have hS2 : (0 : Int) ≤ (S : Int) := by omega
  have hmulP : IntKind.i64.wrap ((S : Int) * (L.length : Int)) = ((L.length * S : Nat) : Int) := by
    have := Nat.mul_le_mul (show L.length ≤ 2000 by omega) hs.2
    rw [← Int.natCast_mul, Nat.mul_comm]
    exact IntWalk.i64_in _ (by omega)
  clear hl
  go_enter Try.func7, Try.ntmps7
  go_wp2_with (first | (go_at_call 9; refine (wakes_any _).mono ?_; rintro e w1 ⟨rfl, hx1⟩) | (at_builtin; refine wpList_append_all rfl _ _ 22 rfl w1.heap.size 5 i0 (.int .u8 0) 1 1 Try.underlying22 hi hz0 hz1 hz2 rfl (by decide) _ _ _ rfl (World.ownsRow_made w1 #[] 0 (Nat.le_refl _) (Nat.zero_le _) (by simp)) zs.length _ (zs.map (Value.int .u8)) rfl (HH.out.1.ext (hx1.alloc _)) int_one ?c4 ?c5 ?c6 ?_))
  case c4 => unfold maxLen; omega
  case c5 => omega
  case c6 => simp
  intro v' w2 hown hgrow
  have hx2 := Lib.hid ((hx1.alloc _).grown hgrow (by intro k hk; simp [Value.ownBlock] at hk; have := hx1.size; omega))
  have hvs := Lib.hid (Ints.owned (show w2.ownsRow w1.heap.size 5 1 v' zs.length (zs.map (Value.int .u8)) by simpa using hown) hwf.out)
  clear hown hgrow
  go_wp2_with (first | (go_at_call 21; refine (HR.out _ _ hvs.out).mono ?_; rintro e w3 ⟨rfl, hx3'⟩; have hx3 := Lib.hid (hx2.out.trans hx3'); clear hx3') | (at_builtin; refine wpList_append_all rfl _ _ 48 rfl w3.heap.size 26 j0 (.agg #[.int .i32 0, .int .i32 0, .int .i32 0, .int .i32 0]) 4 16 Try.underlying48 hj hy0 hy1 hy2 rfl (by decide) _ _ _ rfl (World.ownsRow_made w3 #[] 0 (Nat.le_refl _) (Nat.zero_le _) (by simp)) L.length _ (vecsC L) rfl (HK.out.ext (hx3.out.alloc _)) (vecs_one L) ?c4 ?c5 ?c6 ?_))
  case c4 => unfold maxLen; omega
  case c5 => omega
  case c6 => simp
  intro u' w4 hown4 hgrow4
  have hx4 := Lib.hid ((hx3.out.alloc _).grown hgrow4 (by intro k hk; simp [Value.ownBlock] at hk; have := hx3.out.size; omega))
  have hus := Lib.hid (SlC.owned (show w4.ownsRow w3.heap.size 26 4 u' L.length (vecsC L) by simpa using hown4))
  clear hown4
  go_wp2_with (first | (go_at_call 22; refine (HL.out _ _ hus.out).mono ?_; rintro e w5 ⟨al, capl, rfl, hownl, hx5⟩; have hil := Lib.hid (Ints.owned hownl HLW.out); clear hownl) | (go_at_call 11; refine (HZ.out _).mono ?_; rintro e w6 ⟨rfl, rfl⟩))
  have hxB := Lib.hid (hx4.out.trans hx5)
  clear hx5
  have hilB := Lib.hid hil.out
  have hilP := Lib.hid hilB.out.cap
  go_loopw [120] (fun i wr => ∃ m : Nat, m ≤ L.length ∧ i = .int .i64 m ∧ Ext w5 wr) (fun i _ => L.length - (intOf i).toNat)
  case atStart => exact ⟨0, Nat.zero_le _, rfl, Ext.refl _⟩
  case round =>
    obtain ⟨m, hm, rfl, hx⟩ := hrel
    by_cases hlt : m < L.length
    · obtain ⟨b, off, c0, c1, c2, c3, rfl, hb, hcm, e0, e1, e2, e3⟩ := sl_four (HK.out.ext (hxB.out.trans hx)) rfl hv m hlt
      have hvc := hv _ (List.mem_of_getElem? hcm)
      have hml : (m : Int) < (L.length : Int) := by omega
      have hmS : m * S + S ≤ L.length * S := by have := Nat.mul_le_mul_right S (show m + 1 ≤ L.length by omega); rw [Nat.succ_mul] at this; exact this
      have hLS : L.length * S ≤ 8000 := by have := Nat.mul_le_mul (show L.length ≤ 2000 by omega) hs.2; omega
      have hcut := Lib.hid (layCut (hilB.out) (m * S) (m * S + S) (by omega) hmS)
      have hchunk := Lib.hid (HCH.out m _ hcm)
      have HP : Hid (∀ w, Calls Try.prog 16 #[.int .i64 (k : Int), .agg #[.int .i32 c0, .int .i32 c1, .int .i32 c2, .int .i32 c3]] w fun e w' => ∃ a cap, e = .returned (.slice a S cap) ∧ Ints .u8 w' (.slice a S cap) (lowB (packX k [c0, c1, c2, c3]) S) ∧ Ext w w') := fun w => HPK.out _ hvc w
      have hP1 : IntKind.i64.wrap ((m : Int) * (S : Int)) = ((m * S : Nat) : Int) := by rw [← Int.natCast_mul]; exact IntWalk.i64_in _ (by omega)
      have hP2 : IntKind.i64.wrap (((m * S : Nat) : Int) + (S : Int)) = ((m * S + S : Nat) : Int) := by rw [← Int.natCast_add]; exact IntWalk.i64_in _ (by omega)
      have hc1 : (((m * S + S : Nat) : Nat) : Int) ≤ (capl : Int) := by have := hilP.out.2.1; omega
      have hc0 : ((m * S : Nat) : Int) ≤ ((m * S + S : Nat) : Int) := by omega
      have hsub := Lib.hid (show m * S + S - m * S = S by omega)
      have HXX := Lib.hid hx
      generalize lowB (packX k [c0, c1, c2, c3]) S = B at *
      obtain ⟨bl, offl, rfl, hbl, hcl⟩ := hilB.out.pos (by rw [← hilP.out.1]; have := Nat.le_trans (Nat.le_add_left S (m * S)) hmS; omega)
      have hqs : b < wr.heap.size := hb
      have hcI : Hid (Ints .u8 w5 (.slice (some ⟨bl, offl + m * S, none⟩) (m * S + S - m * S) (capl - m * S)) B) := by
        have h9 := hcut.out
        have e : (BB.drop (m * S)).take (m * S + S - m * S) = B := by rw [hsub.out, hchunk.out]
        rw [if_neg (by have := hilP.out.2.1; omega), e, Option.map_some, Addr.add_lit] at h9
        exact h9
      clear hcm hvc hx hlt hcl hbl
      go_wp2_with fail
      obtain ⟨w7, hw7e, hw7, hx7⟩ : ∃ w7, wr.alloc (.cells #[.int .i32 c0, .int .i32 c1, .int .i32 c2, .int .i32 c3] 26) = w7 ∧ w7.heap[wr.heap.size]? = some (.cells #[.int .i32 c0, .int .i32 c1, .int .i32 c2, .int .i32 c3] 26 (0, 0)) ∧ Ext wr w7 := ⟨_, rfl, heap_alloc_new _ _, (Ext.refl _).alloc _⟩
      rw [hw7e]
      have g0 : w7.cell? ⟨wr.heap.size, 0, none⟩ = some (.int .i32 c0) := cell_of_heap hw7 rfl
      have g1 : w7.cell? ⟨wr.heap.size, 1, none⟩ = some (.int .i32 c1) := cell_of_heap hw7 rfl
      have g2 : w7.cell? ⟨wr.heap.size, 2, none⟩ = some (.int .i32 c2) := cell_of_heap hw7 rfl
      have g3 : w7.cell? ⟨wr.heap.size, 3, none⟩ = some (.int .i32 c3) := cell_of_heap hw7 rfl
      have HX7 := Lib.hid (HXX.out.trans hx7)
      generalize wr.heap.size = qq at *
      have hP0 : (0 : Int) ≤ ((m * S : Nat) : Int) := by omega
      generalize hPe : m * S = P at *
      generalize hRe : P + S = R at *
      clear hw7e hw7 hx7 e0 e1 e2 e3
      go_region_held3 (fun w' => w'.cell? ⟨qq, 0, none⟩ = some (.int .i32 c0) ∧ w'.cell? ⟨qq, 1, none⟩ = some (.int .i32 c1) ∧ w'.cell? ⟨qq, 2, none⟩ = some (.int .i32 c2) ∧ w'.cell? ⟨qq, 3, none⟩ = some (.int .i32 c3)) (go_keep) (first | (go_at_call 16; refine (HP.out _).mono ?_; rintro e w9 ⟨a9, cap9, rfl, hi9, hx9⟩; have g90 := hx9.cell g0; have g91 := hx9.cell g1; have g92 := hx9.cell g2; have g93 := hx9.cell g3) | (go_at_call 15; refine (same_any _ _ _ _ _ (hcI.out.ext (HX7.out.trans (((Ext.refl _).drew).trans hx9))) hi9).mono ?_; rintro e w10 ⟨rfl, hx10⟩; have g00 := hx10.cell g90; have g01 := hx10.cell g91; have g02 := hx10.cell g92; have g03 := hx10.cell g93))
      all_goals go_wp2_with fail
      all_goals go_roundw
      case rel => exact ⟨m + 1, by omega, by go_num, HX7.out.trans ((((Ext.refl _).drew).trans hx9).trans hx10)⟩
      case measure => simp [intOf]; omega
    · obtain rfl : m = L.length := by omega
      clear hlt hm
      go_wp2_with fail
      go_ret
      exact ⟨rfl, hxB.out.trans hx⟩

set_option maxHeartbeats 16000000 in
set_option maxRecDepth 20000 in
theorem rows_ok (k q : Nat) (a a2 : Option Addr) (cap cap2 : Nat) (zs : List Int) (L : List (List Int)) (w : World) (HH : Hid (Ints .u8 w (.slice a zs.length cap) zs)) (HK : Hid (SlC w (.slice a2 L.length cap2) 4 L.length (vecsC L))) (hv : ∀ c ∈ L, VecOk c) (hbig : ¬ 5000 < zs.length) (hbig2 : ¬ 2000 < L.length) (h1 : 1 ≤ k) (h7 : k ≤ 7) (hl : zs.length = q * szN k) : Calls Try.prog 7 #[.int .i64 (k : Int), .slice a zs.length cap, .slice a2 L.length cap2] w fun e w' => e = .returned (.bool true) ∧ Ext w w' := by
  obtain ⟨i0, hi, hz0, hz1, hz2⟩ := info_parts info_u8
  obtain ⟨j0, hj, hy0, hy1, hy2⟩ := info_parts info_vec3
  have hb' : ¬ (5000 : Int) < (zs.length : Int) := by omega
  have hb2 : ¬ (2000 : Int) < (L.length : Int) := by omega
  have hwf := Lib.hid HH.out.2
  have hs := szN_bd k
  have hq5 : q ≤ 5000 := by
    have : q * 1 ≤ q * szN k := Nat.mul_le_mul_left q hs.1
    omega
  have HR := Lib.hid (fun v w (h : Ints .u8 w v zs) => row_any k q v zs w h1 h7 h hl hq5)
  rw [← rowL_cells k zs q] at HR
  have HRL := Lib.hid (rowL_length k zs q)
  have HRV := Lib.hid (rowL_ok k zs q h1 h7)
  have HRW : Hid (∀ m, m < q → (rowL k zs q)[m]? = some (unpV k (leN ((zs.drop (m * szN k)).take (szN k))))) := fun m hm => by
    unfold rowL
    rw [List.getElem?_map, List.getElem?_range hm]
    rfl
  have HSV := Lib.hid (szN_V k h1 h7)
  have HLQ := Lib.hid hl
  have HL := Lib.hid (fun v w (h : SlC w v 4 L.length (vecsC L)) => lay_any k v L w h1 h7 h hv (by omega))
  have HZ := Lib.hid (fun w => refSize_any k w)
  have HLW := Lib.hid (layB_wf k L)
  have HCH := Lib.hid (layB_chunk k L)
  have HPK := Lib.hid (fun c (hc : VecOk c) w => refpack_any k c w h1 h7 hc.1 hc.2)
  rw [szN_V k h1 h7] at HZ
  generalize layB k L = BB at *
  generalize rowL k zs q = RL at *
  generalize szN k = S at *
  have hS0 : ((S : Int) == 0) = false := by simp; omega
  have hS1 : ¬ (S : Int) = 0 := by omega
  have hmod : (zs.length : Int) % (S : Int) = 0 := by rw [hl]; simp
  have hr1 : ((zs.length : Int) % (S : Int) != 0) = false := by simpa using hmod
  have hr2 : ((zs.length : Int).tmod (S : Int) != 0) = false := by rw [Int.tmod_eq_emod_of_nonneg (by omega)]; exact hr1
  have hd1 : (zs.length : Int) / (S : Int) = (q : Int) := by rw [hl, Int.natCast_mul]; exact Int.mul_ediv_cancel _ (by omega)
  have hd2 : (zs.length : Int).tdiv (S : Int) = (q : Int) := by rw [Int.tdiv_eq_ediv_of_nonneg (by omega)]; exact hd1
  have hS2 : (0 : Int) ≤ (S : Int) := by omega
  have hmulP : IntKind.i64.wrap ((S : Int) * (L.length : Int)) = ((L.length * S : Nat) : Int) := by
    have := Nat.mul_le_mul (show L.length ≤ 2000 by omega) hs.2
    rw [← Int.natCast_mul, Nat.mul_comm]
    exact IntWalk.i64_in _ (by omega)
  clear hl hmod
  go_enter Try.func7, Try.ntmps7
  go_wp2_with (first | (go_at_call 9; refine (wakes_any _).mono ?_; rintro e w1 ⟨rfl, hx1⟩) | (at_builtin; refine wpList_append_all rfl _ _ 22 rfl w1.heap.size 5 i0 (.int .u8 0) 1 1 Try.underlying22 hi hz0 hz1 hz2 rfl (by decide) _ _ _ rfl (World.ownsRow_made w1 #[] 0 (Nat.le_refl _) (Nat.zero_le _) (by simp)) zs.length _ (zs.map (Value.int .u8)) rfl (HH.out.1.ext (hx1.alloc _)) int_one ?c4 ?c5 ?c6 ?_))
  case c4 => unfold maxLen; omega
  case c5 => omega
  case c6 => simp
  intro v' w2 hown hgrow
  have hx2 := Lib.hid ((hx1.alloc _).grown hgrow (by intro k hk; simp [Value.ownBlock] at hk; have := hx1.size; omega))
  have hvs := Lib.hid (Ints.owned (show w2.ownsRow w1.heap.size 5 1 v' zs.length (zs.map (Value.int .u8)) by simpa using hown) hwf.out)
  clear hown hgrow
  go_wp2_with (first | (go_at_call 21; refine (HR.out _ _ hvs.out).mono ?_; rintro e w3 ⟨ar, capr, rfl, hownr, hx3'⟩; have hx3 := Lib.hid (hx2.out.trans hx3'); have hr3 := Lib.hid (SlC.owned hownr); clear hx3' hownr) | (at_builtin; refine wpList_append_all rfl _ _ 48 rfl w3.heap.size 26 j0 (.agg #[.int .i32 0, .int .i32 0, .int .i32 0, .int .i32 0]) 4 16 Try.underlying48 hj hy0 hy1 hy2 rfl (by decide) _ _ _ rfl (World.ownsRow_made w3 #[] 0 (Nat.le_refl _) (Nat.zero_le _) (by simp)) L.length _ (vecsC L) rfl (HK.out.ext (hx3.out.alloc _)) (vecs_one L) ?c4 ?c5 ?c6 ?_))
  case c4 => unfold maxLen; omega
  case c5 => omega
  case c6 => simp
  intro u' w4 hown4 hgrow4
  have hx4 := Lib.hid ((hx3.out.alloc _).grown hgrow4 (by intro k hk; simp [Value.ownBlock] at hk; have := hx3.out.size; omega))
  have hus := Lib.hid (SlC.owned (show w4.ownsRow w3.heap.size 26 4 u' L.length (vecsC L) by simpa using hown4))
  have HX35 := Lib.hid (((Ext.refl w3).alloc (.cells #[] 26)).grown hgrow4 (by intro k hk; simp [Value.ownBlock] at hk; omega))
  clear hown4
  go_wp2_with (first | (go_at_call 22; refine (HL.out _ _ hus.out).mono ?_; rintro e w5 ⟨al, capl, rfl, hownl, hx5⟩; have hil := Lib.hid (Ints.owned hownl HLW.out); clear hownl) | (go_at_call 11; refine (HZ.out _).mono ?_; rintro e w6 ⟨rfl, rfl⟩))
  have hxB5 := Lib.hid (hx4.out.trans hx5)
  have hr5 := Lib.hid ((hr3.out.ext (HX35.out)).ext hx5)
  clear hx5
  go_loopw [87] (fun i wr => ∃ m : Nat, m ≤ q ∧ i = .int .i64 m ∧ Ext w5 wr) (fun i _ => q - (intOf i).toNat)
  case atStart => exact ⟨0, Nat.zero_le _, rfl, Ext.refl _⟩
  case round =>
    rename World => wr1
    obtain ⟨m, hm, rfl, hx⟩ := hrel
    by_cases hlt : m < q
    · obtain ⟨b, off, c0, c1, c2, c3, rfl, hb, hcm, e0, e1, e2, e3⟩ := sl_four (hr5.out.ext hx) HRL.out HRV.out m hlt
      have hcm2 := HRW.out m hlt
      rw [hcm] at hcm2
      simp only [Option.some.injEq] at hcm2
      have hml : (m : Int) < (q : Int) := by omega
      have hmS : m * S + S ≤ zs.length := by have := Nat.mul_le_mul_right S (show m + 1 ≤ q by omega); rw [Nat.succ_mul] at this; rw [HLQ.out]; exact this
      have hcut := Lib.hid (layCut HH.out (m * S) (m * S + S) (by omega) hmS)
      have hcapP := Lib.hid HH.out.cap
      have hP1 : IntKind.i64.wrap ((m : Int) * (S : Int)) = ((m * S : Nat) : Int) := by rw [← Int.natCast_mul]; exact IntWalk.i64_in _ (by omega)
      have hP2 : IntKind.i64.wrap (((m * S : Nat) : Int) + (S : Int)) = ((m * S + S : Nat) : Int) := by rw [← Int.natCast_add]; exact IntWalk.i64_in _ (by omega)
      have hc1 : (((m * S + S : Nat) : Nat) : Int) ≤ (cap : Int) := by have := hcapP.out.2.1; omega
      have hc0 : ((m * S : Nat) : Int) ≤ ((m * S + S : Nat) : Int) := by omega
      have hsub := Lib.hid (show m * S + S - m * S = S by omega)
      have hcP := Lib.hid (show cap ≠ m * S by have := hcapP.out.2.1; omega)
      have HXX := Lib.hid hx
      obtain ⟨bl, offl, rfl, hbl, hcl⟩ := HH.out.pos (by omega)
      have hcI : Hid (Ints .u8 w (.slice (some ⟨bl, offl + m * S, none⟩) (m * S + S - m * S) (cap - m * S)) ((zs.drop (m * S)).take S)) := by
        have h9 := hcut.out
        rw [if_neg (by have := hcapP.out.2.1; omega), Option.map_some, Addr.add_lit] at h9
        have e : (zs.drop (m * S)).take (m * S + S - m * S) = (zs.drop (m * S)).take S := by rw [hsub.out]
        rw [e] at h9
        exact h9
      have HU := Lib.hid (fun w' (x' : Ext w w') => refunp_any k _ _ w' h1 h7 (hcI.out.ext x') (by rw [HSV.out, List.length_take, List.length_drop, Nat.min_eq_left (by omega)]))
      rw [← hcm2, vecC4] at HU
      have hqs : b < wr1.heap.size := hb
      clear hcm hcm2 hx hlt hcl hbl
      go_wp2_with fail
      obtain ⟨w7, hw7e, hw7, hx7⟩ : ∃ w7, wr1.alloc (.cells #[.int .i32 c0, .int .i32 c1, .int .i32 c2, .int .i32 c3] 26) = w7 ∧ w7.heap[wr1.heap.size]? = some (.cells #[.int .i32 c0, .int .i32 c1, .int .i32 c2, .int .i32 c3] 26 (0, 0)) ∧ Ext wr1 w7 := ⟨_, rfl, heap_alloc_new _ _, (Ext.refl _).alloc _⟩
      rw [hw7e]
      have g0 : w7.cell? ⟨wr1.heap.size, 0, none⟩ = some (.int .i32 c0) := cell_of_heap hw7 rfl
      have g1 : w7.cell? ⟨wr1.heap.size, 1, none⟩ = some (.int .i32 c1) := cell_of_heap hw7 rfl
      have g2 : w7.cell? ⟨wr1.heap.size, 2, none⟩ = some (.int .i32 c2) := cell_of_heap hw7 rfl
      have g3 : w7.cell? ⟨wr1.heap.size, 3, none⟩ = some (.int .i32 c3) := cell_of_heap hw7 rfl
      have HX7 := Lib.hid (HXX.out.trans hx7)
      generalize wr1.heap.size = qq at *
      have hP0 : (0 : Int) ≤ ((m * S : Nat) : Int) := by omega
      generalize hPe : m * S = P at *
      generalize hRe : P + S = R at *
      clear hw7e hw7 hx7 e0 e1 e2 e3
      go_region_held3 (fun w' => w'.cell? ⟨qq, 0, none⟩ = some (.int .i32 c0) ∧ w'.cell? ⟨qq, 1, none⟩ = some (.int .i32 c1) ∧ w'.cell? ⟨qq, 2, none⟩ = some (.int .i32 c2) ∧ w'.cell? ⟨qq, 3, none⟩ = some (.int .i32 c3)) (go_keep) (first | (go_at_call 12; rw [if_neg hcP.out]; refine (HU.out _ ((hxB5.out.trans HX7.out).trans (Ext.refl _).drew)).mono ?_; rintro e w9 ⟨rfl, hx9⟩; have g90 := hx9.cell g0; have g91 := hx9.cell g1; have g92 := hx9.cell g2; have g93 := hx9.cell g3))
      all_goals go_wp2_with fail
      all_goals go_roundw
      case rel => exact ⟨m + 1, by omega, by go_num, HX7.out.trans ((Ext.refl _).drew.trans hx9)⟩
      case measure => simp [intOf]; omega
    · obtain rfl : m = q := by omega
      have hxB := Lib.hid (hxB5.out.trans hx)
      have hilB := Lib.hid (hil.out.ext hx)
      clear hlt hm hx hr5 hr3 hil
      go_wp2_with fail
      have hilP := Lib.hid hilB.out.cap
      go_loopw [120] (fun i wr => ∃ m : Nat, m ≤ L.length ∧ i = .int .i64 m ∧ Ext wr1 wr) (fun i _ => L.length - (intOf i).toNat)
      case atStart => exact ⟨0, Nat.zero_le _, rfl, Ext.refl _⟩
      case round =>
        obtain ⟨m, hm, rfl, hx⟩ := hrel
        by_cases hlt : m < L.length
        · obtain ⟨b, off, c0, c1, c2, c3, rfl, hb, hcm, e0, e1, e2, e3⟩ := sl_four (HK.out.ext (hxB.out.trans hx)) rfl hv m hlt
          have hvc := hv _ (List.mem_of_getElem? hcm)
          have hml : (m : Int) < (L.length : Int) := by omega
          have hmS : m * S + S ≤ L.length * S := by have := Nat.mul_le_mul_right S (show m + 1 ≤ L.length by omega); rw [Nat.succ_mul] at this; exact this
          have hLS : L.length * S ≤ 8000 := by have := Nat.mul_le_mul (show L.length ≤ 2000 by omega) hs.2; omega
          have hcut := Lib.hid (layCut (hilB.out) (m * S) (m * S + S) (by omega) hmS)
          have hchunk := Lib.hid (HCH.out m _ hcm)
          have HP : Hid (∀ w, Calls Try.prog 16 #[.int .i64 (k : Int), .agg #[.int .i32 c0, .int .i32 c1, .int .i32 c2, .int .i32 c3]] w fun e w' => ∃ a cap, e = .returned (.slice a S cap) ∧ Ints .u8 w' (.slice a S cap) (lowB (packX k [c0, c1, c2, c3]) S) ∧ Ext w w') := fun w => HPK.out _ hvc w
          have hP1 : IntKind.i64.wrap ((m : Int) * (S : Int)) = ((m * S : Nat) : Int) := by rw [← Int.natCast_mul]; exact IntWalk.i64_in _ (by omega)
          have hP2 : IntKind.i64.wrap (((m * S : Nat) : Int) + (S : Int)) = ((m * S + S : Nat) : Int) := by rw [← Int.natCast_add]; exact IntWalk.i64_in _ (by omega)
          have hc1 : (((m * S + S : Nat) : Nat) : Int) ≤ (capl : Int) := by have := hilP.out.2.1; omega
          have hc0 : ((m * S : Nat) : Int) ≤ ((m * S + S : Nat) : Int) := by omega
          have hsub := Lib.hid (show m * S + S - m * S = S by omega)
          have HXX := Lib.hid hx
          generalize lowB (packX k [c0, c1, c2, c3]) S = B at *
          obtain ⟨bl, offl, rfl, hbl, hcl⟩ := hilB.out.pos (by rw [← hilP.out.1]; have := Nat.le_trans (Nat.le_add_left S (m * S)) hmS; omega)
          have hqs : b < wr.heap.size := hb
          have hcI : Hid (Ints .u8 wr1 (.slice (some ⟨bl, offl + m * S, none⟩) (m * S + S - m * S) (capl - m * S)) B) := by
            have h9 := hcut.out
            have e : (BB.drop (m * S)).take (m * S + S - m * S) = B := by rw [hsub.out, hchunk.out]
            rw [if_neg (by have := hilP.out.2.1; omega), e, Option.map_some, Addr.add_lit] at h9
            exact h9
          clear hcm hvc hx hlt hcl hbl
          go_wp2_with fail
          obtain ⟨w7, hw7e, hw7, hx7⟩ : ∃ w7, wr.alloc (.cells #[.int .i32 c0, .int .i32 c1, .int .i32 c2, .int .i32 c3] 26) = w7 ∧ w7.heap[wr.heap.size]? = some (.cells #[.int .i32 c0, .int .i32 c1, .int .i32 c2, .int .i32 c3] 26 (0, 0)) ∧ Ext wr w7 := ⟨_, rfl, heap_alloc_new _ _, (Ext.refl _).alloc _⟩
          rw [hw7e]
          have g0 : w7.cell? ⟨wr.heap.size, 0, none⟩ = some (.int .i32 c0) := cell_of_heap hw7 rfl
          have g1 : w7.cell? ⟨wr.heap.size, 1, none⟩ = some (.int .i32 c1) := cell_of_heap hw7 rfl
          have g2 : w7.cell? ⟨wr.heap.size, 2, none⟩ = some (.int .i32 c2) := cell_of_heap hw7 rfl
          have g3 : w7.cell? ⟨wr.heap.size, 3, none⟩ = some (.int .i32 c3) := cell_of_heap hw7 rfl
          have HX7 := Lib.hid (HXX.out.trans hx7)
          generalize wr.heap.size = qq at *
          have hP0 : (0 : Int) ≤ ((m * S : Nat) : Int) := by omega
          generalize hPe : m * S = P at *
          generalize hRe : P + S = R at *
          clear hw7e hw7 hx7 e0 e1 e2 e3
          go_region_held3 (fun w' => w'.cell? ⟨qq, 0, none⟩ = some (.int .i32 c0) ∧ w'.cell? ⟨qq, 1, none⟩ = some (.int .i32 c1) ∧ w'.cell? ⟨qq, 2, none⟩ = some (.int .i32 c2) ∧ w'.cell? ⟨qq, 3, none⟩ = some (.int .i32 c3)) (go_keep) (first | (go_at_call 16; refine (HP.out _).mono ?_; rintro e w9 ⟨a9, cap9, rfl, hi9, hx9⟩; have g90 := hx9.cell g0; have g91 := hx9.cell g1; have g92 := hx9.cell g2; have g93 := hx9.cell g3) | (go_at_call 15; refine (same_any _ _ _ _ _ (hcI.out.ext (HX7.out.trans (((Ext.refl _).drew).trans hx9))) hi9).mono ?_; rintro e w10 ⟨rfl, hx10⟩; have g00 := hx10.cell g90; have g01 := hx10.cell g91; have g02 := hx10.cell g92; have g03 := hx10.cell g93))
          all_goals go_wp2_with fail
          all_goals go_roundw
          case rel => exact ⟨m + 1, by omega, by go_num, HX7.out.trans ((((Ext.refl _).drew).trans hx9).trans hx10)⟩
          case measure => simp [intOf]; omega
        · obtain rfl : m = L.length := by omega
          clear hlt hm
          go_wp2_with fail
          go_ret
          exact ⟨rfl, hxB.out.trans hx⟩

end Go.Proofs.Ytjjofmammcnagaa
