/- Contract of short. Conditions: each theorem's own premises. -/
import Derived.Test.YtgbcngmciabpkaaFet13
import Derived.Laws.AppendOwnNone
namespace Go.Proofs.Ytgbcngmciabpkaa
open Go.RowKit Go.ChangeShapes
set_option linter.unusedVariables false

/-- append to a row of one's own, whatever slice is appended. -/
theorem wpList_append_all {P : Program} {w : World} {ops : Array Oper} {rest : List Oper} {o : Oper} {a : Act} {Q : Exit → Act → World → Prop} (hgd : o.guard = none) (s x : Operand) (t : TypeId)
    (ho : o.op = .call { callee := .builtin .append, args := #[s, x], argTypes := #[t, t] })
    (base : Nat) (e : TypeId) (i : TypeInfo) (z : Value) (size bytes : Nat) (ht : P.underlying t = some (.slice e)) (hi : P.info? e = some i) (hz : i.zero = some z)
    (hsize : i.size = size) (hby : i.bytes = bytes) (hzs : z.cells.size = size) (hsz : 0 < size)
    (v : Value) (n : Nat) (xs : List Value) (hs : a.eval s = v) (hown : w.ownsRow base e size v n xs)
    (m : Nat) (u : Value) (news : List Value) (hx : a.eval x = u) (hu : SlC w u size m news) (h1 : ∀ u ∈ news, u.oneCell' = true)
    (h63 : n + m ≤ maxLen) (hbytes : (n + m) * bytes ≤ 140737488355328) (hbase : base ≤ w.heap.size)
    (h : ∀ v' w', w'.ownsRow base e size v' (n + m) (xs ++ news) → w.grownBy w' v.ownBlock → wpList P ops Q rest (a.put o.dst v') w') : wpList P ops Q (o :: rest) a w := by
  obtain ⟨hlen, ad, cap, rfl, hn, hc, hz0, hp⟩ := hu
  cases ad with
  | none =>
    have hcap := hz0 rfl
    subst hcap
    obtain rfl : m = 0 := by omega
    have hnil : news = [] := List.eq_nil_of_length_eq_zero (by simpa using hlen)
    subst hnil
    exact wpList_append_own_none hgd s x t ho base e i size ht hi v n xs hs hown hx (h v w (by simpa using hown) ⟨rfl, rfl, rfl, Nat.le_refl _, fun _ _ _ => rfl⟩)
  | some d =>
    refine wpList_append_own w hgd s x t ho base e i z size bytes ht hi hz hsize hby hzs hsz v n xs hs hown d m cap news hx hlen (fun j y hj => ?_) h1 h63 hbytes hbase (fun v' w' a1 a2 _ => h v' w' a1 a2)
    have hlt := (List.getElem?_eq_some_iff.1 hj).1
    have hm0 : 0 < m := by
      rcases Nat.eq_zero_or_pos m with h0 | h0
      · subst h0; rw [Nat.zero_mul] at hlen; omega
      · exact h0
    obtain ⟨b, off, hd, _, hcell⟩ := hp hm0
    simp only [Option.some.injEq] at hd
    subst hd
    rw [Addr.add_lit]
    exact hcell j y hj

theorem Ints.pre {k : IntKind} {w : World} {a : Option Addr} {m n cap : Nat} {zs : List Int} (h : Ints k w (.slice a m cap) zs) (hn : n ≤ zs.length) : Ints k w (.slice a (zs.take n).length cap) (zs.take n) := by
  obtain ⟨hm, hmc, hcl, hz0⟩ := h.cap
  have hl : (zs.take n).length = n := by rw [List.length_take]; omega
  rw [hl]
  refine ⟨⟨by simp, a, cap, by rw [hl], by rw [hl]; omega, by unfold maxLen; omega, hz0, fun h0 => ?_⟩, fun z hz => h.2 z (List.mem_of_mem_take hz)⟩
  obtain ⟨b, off, ha, hb, hc⟩ := h.pos (by omega)
  refine ⟨b, off, ha, hb, fun j u hu => ?_⟩
  rw [List.getElem?_map, List.getElem?_take] at hu
  split at hu
  · have := hc j (by omega)
    rw [this]
    rw [List.getElem?_eq_getElem (show j < zs.length by omega)] at hu
    rw [List.getD_eq_getElem?_getD, List.getElem?_eq_getElem (show j < zs.length by omega)]
    simpa using hu
  · cases hu
set_option maxRecDepth 100000 in
set_option maxHeartbeats 1000000 in
theorem short_any (v : Value) (bs : List Int) (w : World) (h : Ints .u8 w v bs) : Calls Try.prog 11 #[v] w fun e w' =>
    ∃ b c, e = .returned (.slice (some ⟨b, 0, none⟩) (bs.take 3000).length c) ∧ Ints .u8 w' (.slice (some ⟨b, 0, none⟩) (bs.take 3000).length c) (bs.take 3000) ∧ (bs.take 3000).length < c ∧ w'.cell? ⟨b, (bs.take 3000).length, none⟩ = some (.int .u8 7) ∧ w.heap.size ≤ b ∧ Ext w w' := by
  obtain ⟨i0, hi, hz0, hz1, hz2⟩ := info_parts info_u8
  obtain ⟨a1, k1, rfl⟩ : ∃ a cap, v = .slice a bs.length cap := by obtain ⟨⟨_, a, cap, rfl, _⟩, _⟩ := h; exact ⟨a, cap, rfl⟩
  have hp := h.pre (n := min bs.length 3000) (by omega)
  rw [show (bs.take 3000).length = min bs.length 3000 by rw [List.length_take, Nat.min_comm]]
  have ht : bs.take (min bs.length 3000) = bs.take 3000 := by
    rcases Nat.le_total bs.length 3000 with h1 | h1
    · rw [Nat.min_eq_left h1, List.take_of_length_le (Nat.le_refl _), List.take_of_length_le h1]
    · rw [Nat.min_eq_right h1]
  rw [ht] at hp
  have hlen : (bs.take 3000).length = min bs.length 3000 := by rw [List.length_take, Nat.min_comm]
  have hc := h.cap
  have s1 : (if (3000 : Int) < (bs.length : Int) then 3000 else (bs.length : Int)) = ((min bs.length 3000 : Nat) : Int) := by split <;> omega
  have hn : min bs.length 3000 ≤ 3000 := Nat.min_le_right _ _
  have hn2 : min bs.length 3000 ≤ bs.length := Nat.min_le_left _ _
  generalize min bs.length 3000 = n at *
  generalize bs.take 3000 = zs at *
  subst hlen
  have HP := Lib.hid hp
  have hnk : (zs.length : Int) ≤ (k1 : Int) := by omega
  clear hp h ht
  go_enter Try.func11, Try.ntmps11
  go_upto_region 2 with fail
  go_wp2_with (first | (at_make; refine wpList_make_own _ rfl _ _ 22 rfl w.heap.size 5 i0 (.int .u8 0) 1 Try.underlying22 hi hz0 hz1 _ _ _ (zs.length + 2) rfl rfl (by simp) ?b2 ?b3 (Nat.le_refl _) ?_) | fail)
  case b2 => omega
  case b3 => unfold maxLen; omega
  intro w1 hown hgrow
  have hx1 : Ext w w1 := (Ext.refl w).grown hgrow (by intro k hk; cases hk)
  have HX1 := Lib.hid hx1
  clear hgrow hx1
  go_wp2_with (at_builtin; refine wpList_append_all rfl _ _ 22 rfl w.heap.size 5 i0 (.int .u8 0) 1 1 Try.underlying22 hi hz0 hz1 hz2 rfl (by decide) _ _ _ rfl hown zs.length _ _ rfl (HP.out.ext HX1.out).1 int_one ?c1 ?c2 HX1.out.size ?_)
  case c1 => unfold maxLen; omega
  case c2 => omega
  intro v2 w2 hown2 hgrow2
  have hx2 : Ext w w2 := HX1.out.grown hgrow2 (fun k hk => (hown.lt k hk).1)
  have HX2 := Lib.hid hx2
  clear hgrow2 hx2 hown
  go_wp2_with (at_builtin; refine wpList_append_own _ rfl _ _ 22 rfl w.heap.size 5 i0 (.int .u8 0) 1 1 Try.underlying22 hi hz0 hz1 hz2 rfl (by decide) _ _ _ rfl (hown2.alloc _) ⟨w2.heap.size, 0, none⟩ 1 1 [.int .u8 7] rfl rfl (cell_one_new _ _ _) ?c2 ?c3 ?c4 ?c5 ?_)
  case c2 => intro u hu; simp at hu; subst hu; rfl
  case c3 => unfold maxLen; omega
  case c4 => omega
  case c5 => have := HX2.out.size; simp; omega
  intro v3 w3 hown3 hgrow3 _
  have hx3 : Ext w w3 := (HX2.out.alloc _).grown hgrow3 (fun k hk => ((hown2.alloc (.cells #[.int .u8 7] 5)).lt k hk).1)
  have HX3 := Lib.hid hx3
  clear hgrow3 hx3 hown2
  have hs3 := SlC.owned hown3
  rcases hown3.2 with ⟨_, h0⟩ | ⟨g, c3, cur, rfl, hb, hg, hn1, hn2', _, _⟩
  · omega
  obtain ⟨b, off, he, hbl, hcell⟩ := hs3.pos (by omega)
  cases he
  have k7 := hcell zs.length (.int .u8 7) (by simp)
  rw [Nat.zero_add] at k7
  have hcc : (zs.length : Int) ≤ (c3 : Int) := by omega
  have HIN3 : Hid (Ints .u8 w3 (.slice (some ⟨g, 0, none⟩) zs.length c3) zs) := Lib.hid ⟨⟨by simp, _, _, rfl, by omega, hn2', (fun h => by cases h), fun _ => ⟨g, 0, rfl, hbl, fun j u hu => hcell j u (by
    have hj := (List.getElem?_eq_some_iff.1 hu).1
    rw [List.getElem?_append_left hj]
    exact hu)⟩⟩, HP.out.2⟩
  clear hcell hs3
  go_wp2_with fail
  go_ret
  exact ⟨g, c3, rfl, HIN3.out, by omega, k7, hb, HX3.out⟩
end Go.Proofs.Ytgbcngmciabpkaa
