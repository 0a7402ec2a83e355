/- Contract of few, in short. Conditions: each theorem's own premises. -/
import Derived.Test.YtocdkdkiiammfaaBinS
import Derived.Test.YtocdkdkiiammfaaV4
import Derived.Laws.AppendOwnNone
namespace Go.Proofs.Ytocdkdkiiammfaa
open Go.RowKit
set_option linter.unusedVariables false
set_option maxRecDepth 100000

/-- append to a row of one's own, whatever slice is appended. -/
theorem wpList_append_all {P : Program} {w : World} {ops : Array Oper} {rest : List Oper} {o : Oper} {a : Act} {Q : Exit → Act → World → Prop} (hgd : o.guard = none) (s x : Operand) (t : TypeId)
    (ho : o.op = .call { callee := .builtin .append, args := #[s, x], argTypes := #[t, t] })
    (base : Nat) (e : TypeId) (i : TypeInfo) (z : Value) (size bytes : Nat) (ht : P.underlying t = some (.slice e)) (hi : P.info? e = some i) (hz : i.zero = some z)
    (hsize : i.size = size) (hby : i.bytes = bytes) (hzs : z.cells.size = size) (hsz : 0 < size)
    (v : Value) (n : Nat) (xs : List Value) (hs : a.eval s = v) (hown : w.ownsRow base e size v n xs)
    (m : Nat) (u : Value) (news : List Value) (hx : a.eval x = u) (hu : SlC w u size m news) (h1 : ∀ u ∈ news, u.oneCell' = true)
    (h63 : n + m ≤ maxLen) (hbytes : (n + m) * bytes ≤ 140737488355328) (hbase : base ≤ w.heap.size)
    (h : ∀ v' w', w'.ownsRow base e size v' (n + m) (xs ++ news) → w.grownBy w' v.ownBlock → wpList P ops Q rest (a.put o.dst v') w') : wpList P ops Q (o :: rest) a w := by
  obtain ⟨hlen, ad, cap, rfl, hn, hc, hz0, hp⟩ := hu
  cases ad with
  | none =>
    have hcap := hz0 rfl
    subst hcap
    obtain rfl : m = 0 := by omega
    have hnil : news = [] := List.eq_nil_of_length_eq_zero (by simpa using hlen)
    subst hnil
    exact wpList_append_own_none hgd s x t ho base e i size ht hi v n xs hs hown hx (h v w (by simpa using hown) ⟨rfl, rfl, rfl, Nat.le_refl _, fun _ _ _ => rfl⟩)
  | some d =>
    refine wpList_append_own w hgd s x t ho base e i z size bytes ht hi hz hsize hby hzs hsz v n xs hs hown d m cap news hx hlen (fun j y hj => ?_) h1 h63 hbytes hbase (fun v' w' a1 a2 _ => h v' w' a1 a2)
    have hlt := (List.getElem?_eq_some_iff.1 hj).1
    have hm0 : 0 < m := by
      rcases Nat.eq_zero_or_pos m with h0 | h0
      · subst h0; rw [Nat.zero_mul] at hlen; omega
      · exact h0
    obtain ⟨b, off, hd, _, hcell⟩ := hp hm0
    simp only [Option.some.injEq] at hd
    subst hd
    rw [Addr.add_lit]
    exact hcell j y hj

theorem info_vec5 : (Try.prog.info? 41).map (fun i => (i.zero, i.size, i.bytes)) = some (some (.agg #[.int .i32 0, .int .i32 0, .int .i32 0, .int .i32 0]), 4, 16) := by kernel_rfl
theorem CellIs.one {P : Program} {w : World} : ∀ {l : Lc} {v : Value}, CellIs P w l v → v.oneCell' = true
  | .bool, _, ⟨_, rfl⟩ => rfl
  | .int _, _, ⟨_, rfl, _⟩ => rfl
  | .slice _, _, .inl rfl => rfl
  | .slice _, _, .inr ⟨_, _, _, rfl, _⟩ => rfl
theorem Fits.one {P : Program} {w : World} {ls : List Lc} {cs : List Value} (h : Fits (CellIs P w) ls cs) : ∀ u ∈ cs, u.oneCell' = true := by
  induction h with
  | nil => intro u hu; cases hu
  | cons h _ ih =>
    intro u hu
    rcases List.mem_cons.1 hu with rfl | hu
    · exact h.one
    · exact ih u hu
theorem flat_at {α : Type} (n : Nat) : ∀ (css : List (List α)) (k j : Nat), (∀ cs ∈ css, cs.length = n) → j < n → css.flatten[k * n + j]? = css[k]?.bind (·[j]?)
  | [], k, j, _, _ => by simp
  | c :: css, 0, j, h, hj => by
    have hc := h c (by simp)
    rw [List.flatten_cons, Nat.zero_mul, Nat.zero_add, List.getElem?_append_left (by omega)]
    rfl
  | c :: css, k + 1, j, h, hj => by
    have hc := h c (by simp)
    rw [List.flatten_cons, List.getElem?_append_right (by rw [Nat.succ_mul]; omega), List.getElem?_cons_succ, ← flat_at n css k j (fun cs hcs => h cs (by simp [hcs])) hj]
    congr 1
    rw [Nat.succ_mul]
    omega
theorem SlC.pre {w : World} {a : Option Addr} {sz n m cap : Nat} {cs : List Value} (h : SlC w (.slice a n cap) sz n cs) (hm : m ≤ n) : SlC w (.slice a m cap) sz m (cs.take (m * sz)) := by
  obtain ⟨hl, a', cap', he, hn, hc, hz, hp⟩ := h
  simp only [Value.slice.injEq] at he
  obtain ⟨rfl, _, rfl⟩ := he
  have : m * sz ≤ n * sz := Nat.mul_le_mul_right sz hm
  refine ⟨by rw [List.length_take]; omega, a, cap, rfl, by omega, hc, hz, fun h0 => ?_⟩
  obtain ⟨b, off, ha, hb, hcell⟩ := hp (by omega)
  refine ⟨b, off, ha, hb, fun j u hu => hcell j u ?_⟩
  rw [List.getElem?_take] at hu
  split at hu
  · exact hu
  · cases hu
theorem SlC.pos {w : World} {a : Option Addr} {n cap sz : Nat} {cs : List Value} (h : SlC w (.slice a n cap) sz n cs) (h0 : 0 < n) :
    ∃ b off, a = some ⟨b, off, none⟩ ∧ b < w.heap.size ∧ ∀ j u, cs[j]? = some u → w.cell? ⟨b, off + j, none⟩ = some u := by
  obtain ⟨hlen, a', cap', he, hn, hc, hz, hp⟩ := h
  simp only [Value.slice.injEq] at he
  obtain ⟨rfl, _, rfl⟩ := he
  exact hp h0
/-- A stroke, but for its list of colours' slice. -/
structure Sk where
  (x y z iw : Int)
  front : Bool
  pt : V4
  vars : List V4
  col : V4
/-- The cells of a stroke whose list is the slice q.2. -/
def skC (q : Sk × Value) : List Value := [.int .i64 q.1.x, .int .i64 q.1.y, .int .i32 q.1.z, .int .i32 q.1.iw, .bool q.1.front, .int .i32 q.1.pt.a, .int .i32 q.1.pt.b, .int .i32 q.1.pt.c, .int .i32 q.1.pt.d, q.2, .int .i32 q.1.col.a, .int .i32 q.1.col.b, .int .i32 q.1.col.c, .int .i32 q.1.col.d]
def v4s (l : List V4) : List Value := l.flatMap V4.C
theorem v4s_length (l : List V4) : (v4s l).length = l.length * 4 := by
  unfold v4s
  induction l with
  | nil => rfl
  | cons v l ih => rw [List.flatMap_cons, List.length_append, ih]; simp [V4.C]; omega
theorem v4s_take (l : List V4) : ∀ n, v4s (l.take n) = (v4s l).take (n * 4) := by
  unfold v4s
  induction l with
  | nil => intro n; simp
  | cons v l ih =>
    intro n
    cases n with
    | zero => simp
    | succ n =>
      have h4 : (V4.C v).length = 4 := rfl
      rw [List.take_succ_cons, List.flatMap_cons, List.flatMap_cons, ih, List.take_append, h4, List.take_of_length_le (l := V4.C v) (by rw [h4]; omega), show (n + 1) * 4 - 4 = n * 4 by omega]
theorem v4s_one (l : List V4) : ∀ u ∈ v4s l, u.oneCell' = true := by
  intro u hu
  unfold v4s at hu
  obtain ⟨v, _, hv⟩ := List.mem_flatMap.1 hu
  simp [V4.C] at hv
  rcases hv with rfl | rfl | rfl | rfl <;> rfl
/-- Strokes in a slice. -/
def SksAt (w : World) (v : Value) (L : List (Sk × Value)) : Prop :=
  SlC w v 14 L.length (L.flatMap skC) ∧ ∀ q ∈ L, SlC w q.2 4 q.1.vars.length (v4s q.1.vars)
theorem SksAt.ext {w w' : World} {v : Value} {L : List (Sk × Value)} (h : SksAt w v L) (x : Ext w w') : SksAt w' v L := ⟨h.1.ext x, fun q hq => (h.2 q hq).ext x⟩
/-- Strokes in blocks of one's own. -/
def SksMy (base : Nat) (w : World) (v : Value) (L : List (Sk × Value)) : Prop :=
  w.ownsRow base 46 14 v L.length (L.flatMap skC) ∧ ∀ q ∈ L, w.ownsRow base 41 4 q.2 q.1.vars.length (v4s q.1.vars)
theorem SksMy.at {base : Nat} {w : World} {v : Value} {L : List (Sk × Value)} (h : SksMy base w v L) : SksAt w v L := ⟨SlC.owned h.1, fun q hq => SlC.owned (h.2 q hq)⟩
theorem owns_ext {base : Nat} {e : TypeId} {size : Nat} {v : Value} {n : Nat} {xs : List Value} {w w' : World} (h : w.ownsRow base e size v n xs) (x : Ext w w') : w'.ownsRow base e size v n xs := by
  refine ⟨h.1, ?_⟩
  rcases h.2 with h2 | ⟨g, cap, cur, e1, hb, hh, rest⟩
  · exact .inl h2
  · exact .inr ⟨g, cap, cur, e1, hb, x.heap hh, rest⟩
theorem owns_chg {M : List Nat} {base : Nat} {e : TypeId} {size : Nat} {v : Value} {n : Nat} {xs : List Value} {w w' : World} (h : w.ownsRow base e size v n xs) (x : Chg M w w') (hM : ∀ b, v.ownBlock = some b → b ∉ M) : w'.ownsRow base e size v n xs := by
  refine ⟨h.1, ?_⟩
  rcases h.2 with h2 | ⟨g, cap, cur, e1, hb, hh, rest⟩
  · exact .inl h2
  · subst e1
    exact .inr ⟨g, cap, cur, rfl, hb, x.heap hh (hM g rfl), rest⟩
theorem owns_mono {base base' : Nat} {e : TypeId} {size : Nat} {v : Value} {n : Nat} {xs : List Value} {w : World} (h : w.ownsRow base e size v n xs) (hb : base' ≤ base) : w.ownsRow base' e size v n xs := by
  refine ⟨h.1, ?_⟩
  rcases h.2 with h2 | ⟨g, cap, cur, e1, hb1, hh, rest⟩
  · exact .inl h2
  · exact .inr ⟨g, cap, cur, e1, by omega, hh, rest⟩
theorem owns_grow {base base' : Nat} {e e' : TypeId} {size size' : Nat} {u v : Value} {n n' : Nat} {xs ys : List Value} {w w' : World} (h : w.ownsRow base e size u n xs) (hr : w.ownsRow base' e' size' v n' ys) (he : e ≠ e') (hg : w.grownBy w' v.ownBlock) : w'.ownsRow base e size u n xs := by
  refine ⟨h.1, ?_⟩
  rcases h.2 with h2 | ⟨g, cap, cur, e1, hb, hh, rest⟩
  · exact .inl h2
  · refine .inr ⟨g, cap, cur, e1, hb, (hg.block g (Array.getElem?_eq_some_iff.1 hh).1 (fun hk => ?_)).trans hh, rest⟩
    rcases hr.2 with ⟨rfl, _⟩ | ⟨g', cap', cur', rfl, _, hh', _⟩
    · simp [Value.ownBlock] at hk
    · simp [Value.ownBlock] at hk
      subst hk
      rw [hh] at hh'
      simp only [Option.some.injEq, Obj.cells.injEq] at hh'
      exact he hh'.2.1
theorem owns_base {base : Nat} {e : TypeId} {size : Nat} {v : Value} {n : Nat} {xs : List Value} {w : World} (h : w.ownsRow base e size v n xs) (k : Nat) (hk : v.ownBlock = some k) : base ≤ k := by
  rcases h.2 with ⟨rfl, _⟩ | ⟨g, cap, cur, rfl, hb, _⟩
  · simp [Value.ownBlock] at hk
  · simp [Value.ownBlock] at hk; omega
/-- A stroke with three colours at most. -/
def Sk.trim (s : Sk) : Sk := { s with vars := s.vars.take 3 }
def trimL (L : List (Sk × Value)) (n : Nat) : List Sk := (L.take n).map (·.1.trim)
theorem trimL_snoc {L : List (Sk × Value)} {k : Nat} {q : Sk × Value} (h : L[k]? = some q) : trimL L (k + 1) = trimL L k ++ [q.1.trim] := by
  unfold trimL
  rw [List.take_add_one, h, List.map_append]
  rfl
def skLs : List Lc := [.int .i64, .int .i64, .int .i32, .int .i32, .bool, .int .i32, .int .i32, .int .i32, .int .i32, .slice 41, .int .i32, .int .i32, .int .i32, .int .i32]
theorem v4_form {w : World} {css : List (List Value)} (h : ∀ cs ∈ css, Fits (CellIs Try.prog w) [.int .i32, .int .i32, .int .i32, .int .i32] cs) : ∃ l : List V4, l.length = css.length ∧ v4s l = css.flatten := by
  induction css with
  | nil => exact ⟨[], rfl, rfl⟩
  | cons cs css ih =>
    obtain ⟨l, h1, h2⟩ := ih (fun c hc => h c (by simp [hc]))
    have h0 := h cs (by simp)
    obtain ⟨u0, us0, rfl, ⟨x, rfl, _⟩, g0⟩ := h0.cons_inv
    obtain ⟨u1, us1, rfl, ⟨y, rfl, _⟩, g1⟩ := g0.cons_inv
    obtain ⟨u2, us2, rfl, ⟨z, rfl, _⟩, g2⟩ := g1.cons_inv
    obtain ⟨u3, us3, rfl, ⟨i, rfl, _⟩, g3⟩ := g2.cons_inv
    obtain rfl := g3.nil_inv
    refine ⟨⟨x, y, z, i⟩ :: l, by simp [h1], ?_⟩
    unfold v4s at *
    rw [List.flatMap_cons, List.flatten_cons, h2]
    rfl
theorem sk_form {w : World} {cs : List Value} (h : Fits (CellIs Try.prog w) skLs cs) : ∃ (x y z i : Int) (f : Bool) (p0 p1 p2 p3 : Int) (a : Option Addr) (n c : Nat) (c0 c1 c2 c3 : Int), cs = [.int .i64 x, .int .i64 y, .int .i32 z, .int .i32 i, .bool f, .int .i32 p0, .int .i32 p1, .int .i32 p2, .int .i32 p3, .slice a n c, .int .i32 c0, .int .i32 c1, .int .i32 c2, .int .i32 c3] ∧ ∃ l : List V4, SlC w (.slice a n c) 4 l.length (v4s l) := by
  obtain ⟨u0, us0, rfl, ⟨x, rfl, _⟩, g0⟩ := h.cons_inv
  obtain ⟨u1, us1, rfl, ⟨y, rfl, _⟩, g1⟩ := g0.cons_inv
  obtain ⟨u2, us2, rfl, ⟨z, rfl, _⟩, g2⟩ := g1.cons_inv
  obtain ⟨u3, us3, rfl, ⟨i, rfl, _⟩, g3⟩ := g2.cons_inv
  obtain ⟨u4, us4, rfl, ⟨f, rfl⟩, g4⟩ := g3.cons_inv
  obtain ⟨u5, us5, rfl, ⟨p0, rfl, _⟩, g5⟩ := g4.cons_inv
  obtain ⟨u6, us6, rfl, ⟨p1, rfl, _⟩, g6⟩ := g5.cons_inv
  obtain ⟨u7, us7, rfl, ⟨p2, rfl, _⟩, g7⟩ := g6.cons_inv
  obtain ⟨u8, us8, rfl, ⟨p3, rfl, _⟩, g8⟩ := g7.cons_inv
  obtain ⟨vs, us9, rfl, hv, g9⟩ := g8.cons_inv
  obtain ⟨u10, us10, rfl, ⟨c0, rfl, _⟩, g10⟩ := g9.cons_inv
  obtain ⟨u11, us11, rfl, ⟨c1, rfl, _⟩, g11⟩ := g10.cons_inv
  obtain ⟨u12, us12, rfl, ⟨c2, rfl, _⟩, g12⟩ := g11.cons_inv
  obtain ⟨u13, us13, rfl, ⟨c3, rfl, _⟩, g13⟩ := g12.cons_inv
  obtain rfl := g13.nil_inv
  obtain ⟨css, hc1, hc2⟩ := hv.elems 4 (ls := [.int .i32, .int .i32, .int .i32, .int .i32]) rfl rfl (by decide)
  obtain ⟨l, hl1, hl2⟩ := v4_form hc2
  rw [← hl2, ← hl1] at hc1
  rcases hv with rfl | ⟨a, n, c, rfl, _⟩
  · exact ⟨x, y, z, i, f, p0, p1, p2, p3, _, _, _, c0, c1, c2, c3, rfl, l, hc1⟩
  · exact ⟨x, y, z, i, f, p0, p1, p2, p3, _, _, _, c0, c1, c2, c3, rfl, l, hc1⟩
theorem sk_list {w : World} {css : List (List Value)} (h : ∀ cs ∈ css, Fits (CellIs Try.prog w) skLs cs) : ∃ L : List (Sk × Value), L.length = css.length ∧ L.flatMap skC = css.flatten ∧ ∀ q ∈ L, SlC w q.2 4 q.1.vars.length (v4s q.1.vars) := by
  induction css with
  | nil => exact ⟨[], rfl, rfl, by simp⟩
  | cons cs css ih =>
    obtain ⟨L, h1, h2, h3⟩ := ih (fun c hc => h c (by simp [hc]))
    obtain ⟨x, y, z, i, f, p0, p1, p2, p3, a, n, c, c0, c1, c2, c3, rfl, l, hl⟩ := sk_form (h cs (by simp))
    refine ⟨(⟨x, y, z, i, f, ⟨p0, p1, p2, p3⟩, l, ⟨c0, c1, c2, c3⟩⟩, .slice a n c) :: L, by simp [h1], ?_, ?_⟩
    · rw [List.flatMap_cons, List.flatten_cons, h2]
      rfl
    · intro q hq
      rcases List.mem_cons.1 hq with rfl | hq
      · exact hl
      · exact h3 q hq
theorem sk_arg {W : World} {v : Value} (h : ArgIs Try.prog W 34 v) : ∃ L, SksAt W v L := by
  obtain ⟨css, h1, h2⟩ := h.elems 6 (ls := skLs) Try.underlying34 rfl rfl (by decide)
  obtain ⟨L, g1, g2, g3⟩ := sk_list h2
  exact ⟨L, by rw [g1, g2]; exact h1, g3⟩
theorem sk_len (q : Sk × Value) : (skC q).length = 14 := rfl
/-- The cells of the k-th stroke. -/
theorem sks_at (L : List (Sk × Value)) (k : Nat) (q : Sk × Value) (h : L[k]? = some q) (j : Nat) (hj : j < 14) : (L.flatMap skC)[k * 14 + j]? = (skC q)[j]? := by
  have := flat_at 14 (L.map skC) k j (by intro cs hcs; obtain ⟨p, _, rfl⟩ := List.mem_map.1 hcs; rfl) hj
  rw [List.flatMap_def, this]
  simp [h]
attribute [local go_sem ↓] Ld_Sk St_Sk
set_option maxRecDepth 100000 in
set_option maxHeartbeats 4000000 in
theorem few_any (v : Value) (L : List (Sk × Value)) (w : World) (h : SksAt w v L) : Calls Try.prog 10 #[v] w fun e w' => ∃ a cap Lo, e = .returned (.slice a Lo.length cap) ∧ SksMy w.heap.size w' (.slice a Lo.length cap) Lo ∧ Lo.map (·.1) = trimL L 200 ∧ Ext w w' := by
  obtain ⟨i0, hi, hz0, hz1, hz2⟩ := info_parts info_sk3
  obtain ⟨j0, hj, hy0, hy1, hy2⟩ := info_parts info_vec5
  obtain ⟨hs, hf⟩ := h
  have HS := Lib.hid hs
  have HF := Lib.hid hf
  clear hf
  obtain ⟨_, av, cap, rfl, hn, hc, _, _⟩ := hs
  go_enter Try.func10, Try.ntmps10
  go_wp2_with fail
  go_loopw [3, 8] (fun o i wr => ∃ (k : Nat) (a : Option Addr) (c : Nat) (Lo : List (Sk × Value)), k ≤ L.length ∧ k ≤ 200 ∧ i = .int .i64 k ∧ o = .slice a k c ∧ Hid (Lo.length = k ∧ SksMy w.heap.size wr (.slice a k c) Lo ∧ Lo.map (·.1) = trimL L k) ∧ Hid (Ext w wr)) (fun _ i _ => L.length - (intOf i).toNat)
  case atStart => exact ⟨0, none, 0, [], Nat.zero_le _, by omega, rfl, rfl, Lib.hid ⟨rfl, ⟨World.ownsRow_nil _ _ _ _, by simp⟩, rfl⟩, Lib.hid (Ext.refl _)⟩
  case round =>
    rename World => wr
    obtain ⟨k, a, c, Lo, hk, hk2, rfl, rfl, HLO, HX⟩ := hrel
    have hxs := HX.out.size
    by_cases hlt : k < L.length
    · obtain ⟨q, hq⟩ : ∃ q, L[k]? = some q := ⟨_, List.getElem?_eq_getElem hlt⟩
      have HQ := Lib.hid hq
      have HV := Lib.hid (HF.out q (List.mem_of_getElem? hq))
      obtain ⟨b, off, rfl, hb, hcell⟩ := (HS.out.ext HX.out).pos (by omega)
      obtain ⟨⟨x, y, z, iw, fb, ⟨p0, p1, p2, p3⟩, l, ⟨c0, c1, c2, c3⟩⟩, vv⟩ := q
      have HAT := Lib.hid (sks_at L k _ hq)
      obtain ⟨_, va, vc, hve, hvn, hvc, _, _⟩ := HV.out
      simp only at hve hvn HV
      subst hve
      have hld : (@Classical.epsilon _ neF (LdF 46 (.pointer (some ⟨b, off + k * 14, none⟩)))).run Try.prog wr = .ok (.agg #[.int .i64 x, .int .i64 y, .int .i32 z, .int .i32 iw, .bool fb, .int .i32 p0, .int .i32 p1, .int .i32 p2, .int .i32 p3, .slice va l.length vc, .int .i32 c0, .int .i32 c1, .int .i32 c2, .int .i32 c3]) wr :=
        ldF_ok (cs := [.int .i64 x, .int .i64 y, .int .i32 z, .int .i32 iw, .bool fb, .int .i32 p0, .int .i32 p1, .int .i32 p2, .int .i32 p3, .slice va l.length vc, .int .i32 c0, .int .i32 c1, .int .i32 c2, .int .i32 c3]) _ (fun j u hu => by
          have hj14 : j < 14 := (List.getElem?_eq_some_iff.1 hu).1
          have := hcell (k * 14 + j) u ((HAT.out j hj14).trans hu)
          rw [← Nat.add_assoc] at this
          exact this) Try.underlying46 rfl info_sk
      obtain ⟨w6, hst6, h6, hx6⟩ := newSk wr [.int .i64 x, .int .i64 y, .int .i32 z, .int .i32 iw, .bool fb, .int .i32 p0, .int .i32 p1, .int .i32 p2, .int .i32 p3, .slice va l.length vc, .int .i32 c0, .int .i32 c1, .int .i32 c2, .int .i32 c3] rfl (by simp [Value.oneCell'])
      have hki : (k : Int) < (L.length : Int) := by omega
      have e9 : w6.cell? ⟨wr.heap.size, 9, none⟩ = some (.slice va l.length vc) := cell_of_heap h6 rfl
      have f9 : w6.frozen? ⟨wr.heap.size, 9, none⟩ = false := free_of_heap h6
      have n6 := heap_lt h6
      have H6 := Lib.hid h6
      have HX6 := Lib.hid (HX.out.trans hx6)
      have HXW := Lib.hid hx6
      clear hcell h6 hx6 hq
      by_cases h200 : k = 200
      · subst h200
        go_wp2_with fail
        go_ret
        obtain ⟨hl, hm, hp⟩ := HLO.out
        refine ⟨a, c, Lo, ?_, ?_⟩
        · rw [hl]; rfl
        · rw [hl]; exact ⟨⟨owns_ext hm.1 HXW.out, fun q hq => owns_ext (hm.2 q hq) HXW.out⟩, hp, HX6.out⟩
      · have hk3 : ((k : Int) == 200) = false := by simp; omega
        have s1 : (if (3 : Int) < (l.length : Int) then 3 else (l.length : Int)) = ((min l.length 3 : Nat) : Int) := by split <;> omega
        have hm3 : min l.length 3 ≤ 3 := Nat.min_le_right _ _
        have hmv : min l.length 3 ≤ l.length := Nat.min_le_left _ _
        have HPRE := Lib.hid ((HV.out.ext HX6.out).pre hmv)
        have HT := Lib.hid (show (v4s l).take (min l.length 3 * 4) = v4s (l.take 3) by
          rw [v4s_take]
          rcases Nat.le_total l.length 3 with h3 | h3
          · rw [Nat.min_eq_left h3, List.take_of_length_le (by rw [v4s_length]; omega), List.take_of_length_le (by rw [v4s_length]; omega)]
          · rw [Nat.min_eq_right h3])
        have HTL := Lib.hid (show (l.take 3).length = min l.length 3 by rw [List.length_take, Nat.min_comm])
        rw [HT.out] at HPRE
        have HVO := Lib.hid (v4s_one (l.take 3))
        have hmc : ((min l.length 3 : Nat) : Int) ≤ (vc : Int) := by omega
        have hvl2 : ((l.length : Nat) : Int) ≤ 9223372036854775807 := by unfold maxLen at hvc; omega
        obtain ⟨news, hne⟩ : ∃ news, v4s (l.take 3) = news := ⟨_, rfl⟩
        have HNE := Lib.hid hne
        rw [hne] at HPRE HT HVO
        clear hne
        generalize min l.length 3 = m at *
        have HB6 := Lib.hid (HPRE.out.ext ((Ext.refl _).alloc (.cells #[] 41)))
        have hL := Lib.hid (HLO.out.1)
        go_upto_region 6 with fail
        go_wp2_with (at_builtin; refine wpList_append_all rfl _ _ 42 rfl w6.heap.size 41 j0 (.agg #[.int .i32 0, .int .i32 0, .int .i32 0, .int .i32 0]) 4 16 Try.underlying42 hj hy0 hy1 hy2 rfl (by decide) _ _ _ rfl (World.ownsRow_made w6 #[] 0 (Nat.le_refl _) (Nat.zero_le _) (by simp)) m _ news rfl HB6.out HVO.out ?c4 ?c5 ?c6 ?_)
        case c4 => unfold maxLen; omega
        case c5 => omega
        intro v' w7 hown hgrow
        have hx67 : Ext w6 w7 := ((Ext.refl w6).alloc _).grown hgrow (by intro k hk; simp [Value.ownBlock] at hk; omega)
        have hown7 : w7.ownsRow w6.heap.size 41 4 v' m news := by simpa using hown
        obtain ⟨a7, c7, rfl⟩ := ownsB_slice hown7
        have h7 := hx67.heap H6.out
        have e9 : w7.cell? ⟨wr.heap.size, 9, none⟩ = some (.slice va l.length vc) := cell_of_heap h7 rfl
        have f9 : w7.frozen? ⟨wr.heap.size, 9, none⟩ = false := free_of_heap h7
        have n7 := heap_lt h7
        obtain ⟨w8, hw8⟩ : ∃ w8, w7.setCell ⟨wr.heap.size, 9, none⟩ (.slice a7 m c7) = w8 := ⟨_, rfl⟩
        have h8 := heap_set (k := 9) (u := .slice a7 m c7) h7
        have hx8 : Ext wr w8 := by rw [← hw8]; exact (HXW.out.trans hx67).setCell (Nat.le_refl _) _
        rw [hw8] at h8
        have hown8 : w8.ownsRow w.heap.size 41 4 (.slice a7 m c7) m news := by
          rw [← hw8]
          exact owns_mono (owns_chg (M := [wr.heap.size]) hown7 ((Chg.refl _ _).setCell (p := ⟨wr.heap.size, 9, none⟩) (by simp) _) (fun b hb => by have := owns_base hown7 b hb; simp; omega)) (by omega)
        have hl8 := sk_load (off := 0) (cs := [.int .i64 x, .int .i64 y, .int .i32 z, .int .i32 iw, .bool fb, .int .i32 p0, .int .i32 p1, .int .i32 p2, .int .i32 p3, .slice a7 m c7, .int .i32 c0, .int .i32 c1, .int .i32 c2, .int .i32 c3]) h8 rfl rfl
        have n8 := heap_lt h8
        have HX8 := Lib.hid hx8
        have hs8 := hx8.size
        have HOWN8 := Lib.hid hown8
        have HRR := Lib.hid (owns_ext HLO.out.2.1.1 hx8)
        rw [hL.out] at HRR
        clear h8 hx8 hown8 hown7 hown hgrow hx67 h7
        go_wp2_with (at_builtin; refine wpList_append_own _ rfl _ _ 34 rfl w.heap.size 46 i0 (.agg #[.int .i64 0, .int .i64 0, .int .i32 0, .int .i32 0, .bool false, .int .i32 0, .int .i32 0, .int .i32 0, .int .i32 0, .slice none 0 0, .int .i32 0, .int .i32 0, .int .i32 0, .int .i32 0]) 14 88 Try.underlying34 hi hz0 hz1 hz2 rfl (by decide) _ _ _ rfl (owns_ext HRR.out ((Ext.refl _).alloc _)) ⟨w8.heap.size, 0, none⟩ 1 1 [.int .i64 x, .int .i64 y, .int .i32 z, .int .i32 iw, .bool fb, .int .i32 p0, .int .i32 p1, .int .i32 p2, .int .i32 p3, .slice a7 m c7, .int .i32 c0, .int .i32 c1, .int .i32 c2, .int .i32 c3] rfl rfl (World.news_of_block (heap_alloc_new _ _)) (by simp [Value.oneCell']) ?c3 ?c4 ?c5 ?_)
        case c3 => unfold maxLen; omega
        case c4 => omega
        case c5 => simp; omega
        intro v9 w9 hown9 hgrow9 _
        obtain ⟨a9, c9, rfl⟩ := ownsB_slice hown9
        have hx9 : Ext w w9 := ((HX.out.trans HX8.out).alloc _).grown hgrow9 (fun b hb => owns_base HRR.out b hb)
        have HM9 : Hid (SksMy w.heap.size w9 (.slice a9 (k + 1) c9) (Lo ++ [(⟨x, y, z, iw, fb, ⟨p0, p1, p2, p3⟩, l.take 3, ⟨c0, c1, c2, c3⟩⟩, .slice a7 m c7)])) := by
          refine ⟨?_, ?_⟩
          · rw [List.flatMap_append, List.length_append, hL.out]
            exact hown9
          · intro q hq
            rcases List.mem_append.1 hq with hq | hq
            · exact owns_grow (owns_ext (HLO.out.2.1.2 q hq) (HX8.out.alloc _)) (owns_ext HRR.out ((Ext.refl _).alloc _)) (by decide) hgrow9
            · obtain rfl := List.mem_singleton.1 hq
              simp only
              rw [HTL.out, HNE.out]
              exact owns_grow (owns_ext HOWN8.out ((Ext.refl _).alloc _)) (owns_ext HRR.out ((Ext.refl _).alloc _)) (by decide) hgrow9
        have HX9 := Lib.hid hx9
        have HLO9 := Lib.hid HLO.out.2.2
        clear hown9 hgrow9 hx9 HRR HOWN8 HLO e9 f9 hw8 hl8
        go_wp2_with fail
        go_roundw
        case rel => exact ⟨k + 1, a9, c9, _, by omega, by omega, rfl, rfl, Lib.hid ⟨by rw [List.length_append, hL.out]; rfl, HM9.out, by rw [List.map_append, HLO9.out, trimL_snoc HQ.out]; rfl⟩, HX9⟩
        case measure => simp [intOf]; omega
    · obtain rfl : k = L.length := by omega
      go_wp2_with fail
      go_ret
      obtain ⟨hl, hm, hp⟩ := HLO.out
      refine ⟨a, c, Lo, ?_, ?_⟩
      · rw [hl]; rfl
      · rw [hl]; exact ⟨hm, by rw [hp]; unfold trimL; rw [List.take_of_length_le hk2, List.take_of_length_le (Nat.le_refl _)], HX.out⟩
end Go.Proofs.Ytocdkdkiiammfaa
