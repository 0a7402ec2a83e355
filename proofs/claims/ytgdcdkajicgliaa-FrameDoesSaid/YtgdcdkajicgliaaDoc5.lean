/- The document's New. Conditions: each theorem's own premises. -/
import Derived.Test.YtgdcdkajicgliaaDoc4
import Derived.Deep.RegionLaw
import Derived.Deep.RegionHeld3
namespace Go.Proofs.Ytgdcdkajicgliaa
open Go.RowKit
set_option linter.unusedVariables false
set_option linter.unusedSimpArgs false
set_option maxRecDepth 100000

theorem owns_ext {base : Nat} {e : TypeId} {size : Nat} {v : Value} {n : Nat} {xs : List Value} {w w' : World} (h : w.ownsRow base e size v n xs) (x : Ext w w') : w'.ownsRow base e size v n xs := by
  refine ⟨h.1, ?_⟩
  rcases h.2 with h2 | ⟨g, cap, cur, e1, hb, hh, rest⟩
  · exact .inl h2
  · exact .inr ⟨g, cap, cur, e1, hb, x.heap hh, rest⟩
theorem owns_chg {M : List Nat} {base : Nat} {e : TypeId} {size : Nat} {v : Value} {n : Nat} {xs : List Value} {w w' : World} (h : w.ownsRow base e size v n xs) (x : Chg M w w') (hM : ∀ b, v.ownBlock = some b → b ∉ M) : w'.ownsRow base e size v n xs := by
  refine ⟨h.1, ?_⟩
  rcases h.2 with h2 | ⟨g, cap, cur, e1, hb, hh, rest⟩
  · exact .inl h2
  · subst e1
    exact .inr ⟨g, cap, cur, rfl, hb, x.heap hh (hM g rfl), rest⟩
theorem owns_grow {base base' : Nat} {e e' : TypeId} {size size' : Nat} {u v : Value} {n n' : Nat} {xs ys : List Value} {w w' : World} (h : w.ownsRow base e size u n xs) (hr : w.ownsRow base' e' size' v n' ys) (he : e ≠ e') (hg : w.grownBy w' v.ownBlock) : w'.ownsRow base e size u n xs := by
  refine ⟨h.1, ?_⟩
  rcases h.2 with h2 | ⟨g, cap, cur, e1, hb, hh, rest⟩
  · exact .inl h2
  · refine .inr ⟨g, cap, cur, e1, hb, (hg.block g (Array.getElem?_eq_some_iff.1 hh).1 (fun hk => ?_)).trans hh, rest⟩
    rcases hr.2 with ⟨rfl, _⟩ | ⟨g', cap', cur', rfl, _, hh', _⟩
    · simp [Value.ownBlock] at hk
    · simp [Value.ownBlock] at hk
      subst hk
      rw [hh] at hh'
      simp only [Option.some.injEq, Obj.cells.injEq] at hh'
      exact he hh'.2.1
theorem owns_base {base : Nat} {e : TypeId} {size : Nat} {v : Value} {n : Nat} {xs : List Value} {w : World} (h : w.ownsRow base e size v n xs) (k : Nat) (hk : v.ownBlock = some k) : base ≤ k := by
  rcases h.2 with ⟨rfl, _⟩ | ⟨g, cap, cur, rfl, hb, _⟩
  · simp [Value.ownBlock] at hk
  · simp [Value.ownBlock] at hk; omega
theorem own_type {w : World} {base : Nat} {e : TypeId} {size n : Nat} {v : Value} {xs : List Value} (h : w.ownsRow base e size v n xs) {k : Nat} (hk : v.ownBlock = some k) : ∃ cur, w.heap[k]? = some (.cells cur e (0, 0)) ∧ base ≤ k := by
  rcases h.2 with ⟨rfl, _⟩ | ⟨g, cap, cur, rfl, hb, hh, _⟩
  · simp [Value.ownBlock] at hk
  · simp only [Value.ownBlock, Option.some.injEq] at hk
    subst hk
    exact ⟨cur, hh, hb⟩
theorem own_ne {w : World} {base : Nat} {e e' : TypeId} {size n k : Nat} {v : Value} {xs : List Value} {cs : Array Value} (h : w.ownsRow base e size v n xs) (hk : w.heap[k]? = some (.cells cs e' (0, 0))) (he : e ≠ e') : v.ownBlock ≠ some k := fun hv => by
  obtain ⟨cur, hc, _⟩ := own_type h hv
  rw [hk] at hc
  simp only [Option.some.injEq, Obj.cells.injEq] at hc
  exact he hc.2.1.symm
theorem row_blk {w : World} {base n size : Nat} {e : TypeId} {a : Option Addr} {cap : Nat} {xs : List Value} (h : w.ownsRow base e size (.slice a n cap) n xs) (h0 : 0 < n) : ∃ g cur, a = some ⟨g, 0, none⟩ ∧ w.heap[g]? = some (.cells (List.toArray cur) e (0, 0)) ∧ n * size ≤ cur.length := by
  rcases h.2 with ⟨h1, h2⟩ | ⟨g, cap', cur, h1, hb, hh, hn, hm, hs, ht⟩
  · omega
  · simp only [Value.slice.injEq] at h1
    obtain ⟨rfl, _, rfl⟩ := h1
    refine ⟨g, cur.toList, rfl, by simpa using hh, ?_⟩
    have := Nat.mul_le_mul_right size hn
    simp only [Array.length_toList]
    omega
theorem step_append_all {P : Program} {ops : Array Oper} {o : Oper} {a : Act} {w : World} {K : Act → World → Prop} {Q : Exit → Act → World → Prop} {E : Prop} (hgd : o.guard = none) (s x : Operand) (t : TypeId)
    (ho : o.op = .call { callee := .builtin .append, args := #[s, x], argTypes := #[t, t] })
    (base : Nat) (e : TypeId) (i : TypeInfo) (z : Value) (size bytes : Nat) (ht : P.underlying t = some (.slice e)) (hi : P.info? e = some i) (hz : i.zero = some z)
    (hsize : i.size = size) (hby : i.bytes = bytes) (hzs : z.cells.size = size) (hsz : 0 < size)
    (v : Value) (n : Nat) (xs : List Value) (hs : a.eval s = v) (hown : w.ownsRow base e size v n xs)
    (m : Nat) (u : Value) (news : List Value) (hx : a.eval x = u) (hu : SlC w u size m news) (h1 : ∀ u ∈ news, u.oneCell' = true)
    (h63 : n + m ≤ maxLen) (hbytes : (n + m) * bytes ≤ 140737488355328) (hbase : base ≤ w.heap.size)
    (h : ∀ v' w', w'.ownsRow base e size v' (n + m) (xs ++ news) → w.grownBy w' v.ownBlock → K (a.put o.dst v') w') : if Region.wanted o (yielded ops a.tmps) = true then Oper.wp P o a w K Q else E := by
  have hw : Region.wanted o (yielded ops a.tmps) = true := by simp [Region.wanted, hgd]
  rw [if_pos hw]
  obtain ⟨hlen, ad, cap, rfl, hn, hc, hz0, hp⟩ := hu
  cases ad with
  | none =>
    have hcap := hz0 rfl
    subst hcap
    obtain rfl : m = 0 := by omega
    have hnil : news = [] := List.eq_nil_of_length_eq_zero (by simpa using hlen)
    subst hnil
    have hrun := run_append_owned_none (P := P) (w := w) base t o.type e i size ht hi v n xs hown
    unfold Oper.wp
    simp [execOp, ho, resolve, invoke, builtin, hs, hx, hrun, Result.andThen]
    exact h v w (by simpa using hown) ⟨rfl, rfl, rfl, Nat.le_refl _, fun _ _ _ => rfl⟩
  | some d =>
    have hnews : ∀ j u, news[j]? = some u → w.cell? (d.add j) = some u := fun j y hj => by
      have hlt := (List.getElem?_eq_some_iff.1 hj).1
      have hm0 : 0 < m := by
        rcases Nat.eq_zero_or_pos m with h0 | h0
        · subst h0; rw [Nat.zero_mul] at hlen; omega
        · exact h0
      obtain ⟨b, off, hd, _, hcell⟩ := hp hm0
      simp only [Option.some.injEq] at hd
      subst hd
      rw [Addr.add_lit]
      exact hcell j y hj
    obtain ⟨v', w', hrun, r1, r2, _⟩ := run_append_own (P := P) w base t o.type e i z size bytes ht hi hz hsize hby hzs hsz v n xs hown d m cap news hlen hnews h1 h63 hbytes hbase
    unfold Oper.wp
    simp [execOp, ho, resolve, invoke, builtin, hs, hx, hrun, Result.andThen]
    exact h v' w' r1 r2
theorem owns_form {base : Nat} {e : TypeId} {size : Nat} {v : Value} {n : Nat} {xs : List Value} {w : World} (h : w.ownsRow base e size v n xs) : ∃ a c, v = .slice a n c := by
  rcases h.2 with ⟨rfl, rfl⟩ | ⟨g, cap, cur, rfl, _⟩
  · exact ⟨_, _, rfl⟩
  · exact ⟨_, _, rfl⟩
/-- make, at a step of a region that draws. -/
theorem step_make {P : Program} {ops : Array Oper} {o : Oper} {a : Act} {w : World} {K : Act → World → Prop} {Q : Exit → Act → World → Prop} {E : Prop} (hgd : o.guard = none) (l c : Operand) (t : TypeId) (ho : o.op = Op.makeSlice t l c)
    (base : Nat) (e : TypeId) (i : TypeInfo) (z : Value) (size : Nat) (h1 : P.underlying t = some (.slice e)) (h2 : P.info? e = some i) (h3 : i.zero = some z) (h4 : i.size = size)
    (kl kc : IntKind) (n : Nat) (hl : a.eval l = .int kl n) (hc : a.eval c = .int kc n) (b2 : i.bytes * n ≤ 281474976710656) (b3 : n ≤ maxLen) (b4 : base ≤ w.heap.size)
    (h : ∀ w', w'.ownsRow base e size (.slice (some ⟨w.heap.size, 0, none⟩) n n) n (madeCells z.cells (n * size)).toList → w.grownBy w' none → K (a.put o.dst (.slice (some ⟨w.heap.size, 0, none⟩) n n)) w') : if Region.wanted o (yielded ops a.tmps) = true then Oper.wp P o a w K Q else E := by
  have hw : Region.wanted o (yielded ops a.tmps) = true := by simp [Region.wanted, hgd]
  rw [if_pos hw]
  obtain ⟨w', hrun, r1, r2⟩ := run_make_full (P := P) w base t e i z size h1 h2 h3 h4 kl kc n b2 b3 b4
  unfold Oper.wp
  simp [execOp, ho, hl, hc, hrun, Result.andThen]
  exact h w' r1 r2
theorem info_u8' : (Try.prog.info? 5).map (fun i => (i.zero, i.size, i.bytes)) = some (some (.int .u8 0), 1, 1) := by kernel_rfl
theorem made_u8 (S : Nat) : (madeCells (Value.int .u8 0).cells (S * 1)).toList = List.replicate S (.int .u8 0) := by
  refine List.ext_getElem? fun i => ?_
  rw [List.getElem?_replicate, Nat.mul_one]
  by_cases hi : i < S
  · rw [if_pos hi]
    simp [madeCells, hi, Value.cells, Nat.mod_one]
  · rw [if_neg hi, List.getElem?_eq_none (by simp [madeCells]; omega)]
/-- A call of a function that changes nothing, at a step of a region that draws. -/
theorem step_call_pure {P : Program} {ops : Array Oper} {o : Oper} {a : Act} {w : World} {K : Act → World → Prop} {Q : Exit → Act → World → Prop} {E : Prop} (hgd : o.guard = none) (f : FuncId) (x : Operand) (t : TypeId) (ho : o.op = .call { callee := .value (.func f), args := #[x], argTypes := #[t] }) (us : Array Value) (v : Value) (hc : Calls P f us w fun e w' => e = .returned v ∧ w = w')
    (hex : (execOp a.eval o).run P w = .ok (.enter f us) w) (h : K (a.put o.dst v) w) : if Region.wanted o (yielded ops a.tmps) = true then Oper.wp P o a w K Q else E := by
  have hw : Region.wanted o (yielded ops a.tmps) = true := by simp [Region.wanted, hgd]
  rw [if_pos hw]
  unfold Oper.wp
  rw [hex, Oper.upon_enter]
  refine hc.mono ?_
  rintro _ _ ⟨rfl, rfl⟩
  exact h
/-- What holds while the document's planes are made. -/
structure NInv (bse n : Nat) (wr : World) (v : Value) (k : Nat) (L : List Bt) : Prop where
  l : L.length = k
  r : wr.ownsRow bse 140 3 v k (btC L)
  c : ∀ b ∈ L, b.d = 0 ∧ b.s = 0 ∧ wr.ownsRow bse 5 1 b.c n (List.replicate n (.int .u8 0))
theorem NInv.ext {bse n k : Nat} {w w' : World} {v : Value} {L : List Bt} (h : NInv bse n w v k L) (x : Ext w w') : NInv bse n w' v k L := ⟨h.l, owns_ext h.r x, fun b hb => ⟨(h.c b hb).1, (h.c b hb).2.1, owns_ext (h.c b hb).2.2 x⟩⟩
theorem NInv.chg {bse n k : Nat} {w w' : World} {v : Value} {L : List Bt} (h : NInv bse n w v k L) {bp : Nat} {cs : Array Value} (hp : w.heap[bp]? = some (.cells cs 76 (0, 0))) (x : Chg [bp] w w') : NInv bse n w' v k L :=
  ⟨h.l, owns_chg h.r x (fun b hb hm => by rw [List.mem_singleton.1 hm] at hb; exact own_ne h.r hp (by decide) hb), fun b hb => ⟨(h.c b hb).1, (h.c b hb).2.1, owns_chg (h.c b hb).2.2 x (fun k hk hm => by rw [List.mem_singleton.1 hm] at hk; exact own_ne (h.c b hb).2.2 hp (by decide) hk)⟩⟩
theorem NInv.dat {bse k : Nat} {w : World} {v : Value} {L : List Bt} {W H F : Nat} {d s : Bool} (h : NInv bse (szN F) w v k L) (hk : k = W * H) (hok : (plZ W H F d s).Ok) : DAt (fun k => bse ≤ k) w v (plZ W H F d s) L := by
  have hL : L.length = W * H := by rw [h.l]; exact hk
  have hcol : ∀ i, i < W * H → colAt (plZ W H F d s) i = List.replicate (szN F) 0 := fun i hi => by
    have h1 : i * szN F + szN F ≤ W * H * szN F := by
      have := Nat.mul_le_mul_right (szN F) (show i + 1 ≤ W * H by omega)
      rwa [Nat.succ_mul] at this
    exact zeros_chunk (W * H * szN F) (szN F) i h1
  refine ⟨hok, hL, by have := SlC.owned h.r; rw [← h.l] at this; exact this, fun k hk => owns_base h.r k hk, fun i b hb => ?_, fun i b hb k hk => owns_base (h.c b (List.mem_of_getElem? hb)).2.2 k hk, fun i b hb => ?_⟩
  · have hi := (List.getElem?_eq_some_iff.1 hb).1
    rw [hcol i (by omega)]
    have h3 := (h.c b (List.mem_of_getElem? hb)).2.2
    rw [show List.replicate (szN F) (Value.int .u8 0) = (List.replicate (szN F) (0 : Int)).map (Value.int .u8) by rw [List.map_replicate]] at h3
    exact Ints.owned h3 (fun z hz => by rw [List.eq_of_mem_replicate hz]; decide)
  · obtain ⟨h1, h2, _⟩ := h.c b (List.mem_of_getElem? hb)
    have hz : ∀ i n, (List.replicate n (0 : Int)).getD i 0 = 0 := fun i n => by rw [List.getD_eq_getElem?_getD, List.getElem?_replicate]; split <;> rfl
    rw [h1, h2]
    show (0 : Int) = (if d then (List.replicate (W * H) (0 : Int)).getD i 0 else 0) ∧ (0 : Int) = (if s then (List.replicate (W * H) (0 : Int)).getD i 0 else 0)
    rw [hz]
    constructor <;> split <;> rfl
section
attribute [local go_sem ↓] Ld_Dp St_Dp
set_option maxHeartbeats 8000000 in
theorem dnew_any (W H F : Nat) (d s : Bool) (w : World) (h : mayV W H F = true) : Calls Try.prog 29 #[.int .i64 W, .int .i64 H, .int .i64 F, .bool d, .bool s] w fun e w' => ∃ v L, e = .returned (.agg ((plZ W H F d s).D v).toArray) ∧ DAt (fun k => w.heap.size ≤ k) w' v (plZ W H F d s) L ∧ Ext w w' := by
  obtain ⟨h1, h3, h2, h4, h5, h6⟩ := may_true h
  have HOK := Lib.hid (plZ_ok d s (show 1 ≤ W by omega) (show W ≤ 64 by omega) (show 1 ≤ H by omega) (show H ≤ 64 by omega) (show 1 ≤ F by omega) (show F ≤ 4 by omega))
  have HSZ : Hid (∀ w, Calls Try.prog 28 #[.int .i64 F] w fun e w' => e = .returned (.int .i64 ((szN F : Nat) : Int)) ∧ w = w') := Lib.hid (fun w => by
    have := refSize_any F w
    rw [szN_V F (by omega) (by omega)] at this
    exact this)
  have hsz := szN_bd F
  have hwh := Nat.mul_le_mul (show W ≤ 64 by omega) (show H ≤ 64 by omega)
  have s1 : IntKind.i64.wrap ((W : Int) * (H : Int)) = ((W * H : Nat) : Int) := by rw [← Int.natCast_mul]; exact IntWalk.i64_in _ (by omega)
  obtain ⟨i0, hi, hz0, hz1, hz2⟩ := info_parts info_bt
  obtain ⟨i1, hi1, hy0, hy1, hy2⟩ := info_parts info_u8'
  obtain ⟨N, hN⟩ : ∃ N, W * H = N := ⟨_, rfl⟩
  have HN := Lib.hid hN
  rw [hN] at hwh s1
  clear h h1 h2 h3 h4 h5 h6 hN
  obtain ⟨S, hS⟩ : ∃ S, szN F = S := ⟨_, rfl⟩
  have HS := Lib.hid hS
  rw [hS] at HSZ hsz
  clear hS
  obtain ⟨w2, hw2, h2a, h2b, hx2⟩ : ∃ w2, (w.alloc (.cells #[.int .i64 0, .int .i64 0, .int .i64 0, .bool false, .bool false, .slice none 0 0] 76)).alloc (.cells #[.int .i64 0, .int .i64 0, .int .i64 0, .bool false, .bool false, .slice none 0 0] 76) = w2 ∧ w2.heap[w.heap.size]? = some (.cells #[.int .i64 0, .int .i64 0, .int .i64 0, .bool false, .bool false, .slice none 0 0] 76 (0, 0)) ∧ w2.heap[w.heap.size + 1]? = some (.cells #[.int .i64 0, .int .i64 0, .int .i64 0, .bool false, .bool false, .slice none 0 0] 76 (0, 0)) ∧ Ext w w2 := ⟨_, rfl, (heap_pair w _ _).1, (heap_pair w _ _).2, ((Ext.refl _).alloc _).alloc _⟩
  obtain ⟨w3, hst3, h3, hc3⟩ := dp_put h2b (plZ W H F d s) (v := .slice none 0 0) rfl
  have hst3' : (@Classical.epsilon _ neG (StF 76 (.pointer (some ⟨w.heap.size + 1, 0, none⟩)) (.agg #[.int .i64 W, .int .i64 H, .int .i64 F, .bool d, .bool s, .slice none 0 0]))).run Try.prog w2 = .ok () w3 := hst3
  have HW2 := Lib.hid hw2
  have h3a := hc3.heap h2a (show w.heap.size ∉ [w.heap.size + 1] by simp)
  have hx3 := hx2.chgTrans hc3 (by simp)
  have HX3 := Lib.hid hx3
  have HP3 := Lib.hid h3
  have HZ3 := Lib.hid h3a
  clear hst3 hx2 hw2 h2a h2b h3 hc3 h3a hx3
  go_enter Try.func29, Try.ntmps29
  go_upto_region 2 with (rw [HW2.out])
  obtain ⟨bp, hbp⟩ : ∃ bp, w.heap.size + 1 = bp := ⟨_, rfl⟩
  obtain ⟨r, hr⟩ : ∃ r, w.heap.size = r := ⟨_, rfl⟩
  have HB := Lib.hid (And.intro hr hbp)
  rw [hbp] at HP3
  rw [hr] at HZ3
  rw [hbp]
  try rw [hr]
  clear hst3' hr hbp
  have HB3 : Hid (r < bp ∧ bp < w3.heap.size) := Lib.hid ⟨by have := HB.out; omega, heap_lt HP3.out⟩
  obtain ⟨bse, hbse⟩ : ∃ bse, w3.heap.size = bse := ⟨_, rfl⟩
  have HI3 : Hid (NInv bse S w3 (.slice none 0 0) 0 []) := Lib.hid ⟨rfl, World.ownsRow_nil _ _ _ _, by simp⟩
  rw [hbse] at HB3
  have HBS := Lib.hid hbse
  clear hbse
  go_wp2_with fail
  go_loopw [12] (fun i wr => ∃ (k : Nat) (v : Value) (L : List Bt), k ≤ N ∧ i = .int .i64 k ∧ Hid (DpAt wr bp (plZ W H F d s) v ∧ NInv bse S wr v k L ∧ wr.heap[r]? = some (.cells #[.int .i64 0, .int .i64 0, .int .i64 0, .bool false, .bool false, .slice none 0 0] 76 (0, 0)) ∧ Ext w wr ∧ bse ≤ wr.heap.size)) (fun i _ => N - (intOf i).toNat)
  case atStart => exact ⟨0, _, [], Nat.zero_le _, rfl, Lib.hid ⟨HP3.out, HI3.out, HZ3.out, HX3.out, by rw [HBS.out]; exact Nat.le_refl _⟩⟩
  case round =>
    rename World => wr
    obtain ⟨k, v, L, hk, rfl, HR⟩ := hrel
    have n0 := heap_lt HR.out.1
    by_cases hlt : k < N
    · have hki : (k : Int) < ((N : Nat) : Int) := by omega
      go_upto_region 5 with fail
      have K0 : wr.cell? ⟨bp, 5, none⟩ = some v := cell_of_heap HR.out.1 rfl
      have hb2 : i1.bytes * S ≤ 281474976710656 := by rw [hy2]; omega
      have hb3 : S ≤ maxLen := by unfold maxLen; omega
      have HXR := Lib.hid (show Ext wr wr.drew from (Ext.refl _).drew)
      obtain ⟨w6, hrun6, hown6, hgrow6⟩ := run_make_full (P := Try.prog) wr.drew bse 48 5 i1 (.int .u8 0) 1 Try.underlying48 hi1 hy0 hy1 .i64 .i64 S hb2 hb3 (show bse ≤ wr.drew.heap.size from HR.out.2.2.2.2)
      have hsd : wr.drew.heap.size = wr.heap.size := rfl
      rw [hsd] at hrun6 hown6
      clear hsd
      obtain ⟨m6, hm6⟩ : ∃ m6, wr.heap.size = m6 := ⟨_, rfl⟩
      rw [hm6] at hrun6 hown6
      have HX6 : Hid (Ext wr w6) := Lib.hid (HXR.out.grown hgrow6 (by intro k hk; cases hk))
      have HO6 := Lib.hid hown6
      clear hown6 hgrow6
      obtain ⟨w7, hw7, h7, hx7⟩ : ∃ w7, w6.alloc (.cells #[.slice (some ⟨m6, 0, none⟩) S S, .int .u32 0, .int .i64 0] 140) = w7 ∧ w7.heap[w6.heap.size]? = some (.cells (btC [⟨.slice (some ⟨m6, 0, none⟩) S S, 0, 0⟩]).toArray 140 (0, 0)) ∧ Ext w6 w7 := ⟨_, rfl, heap_alloc_new _ _, (Ext.refl _).alloc _⟩
      have HX7 := Lib.hid (HX6.out.trans hx7)
      have HP7 := Lib.hid (HX7.out.heap HR.out.1)
      have HI7 := Lib.hid (HR.out.2.1.ext HX7.out)
      have HU7 := Lib.hid (bt_slice h7 (show 1 ≤ maxLen by decide))
      have K6 : Hid (w6.cell? ⟨bp, 5, none⟩ = some v) := Lib.hid (cell_of_heap (HX6.out.heap HR.out.1) rfl)
      have K6a : Hid ((w6.alloc (.cells #[.slice (some ⟨m6, 0, none⟩) S S, .int .u32 0, .int .i64 0] 140)).cell? ⟨bp, 5, none⟩ = some v) := Lib.hid (by rw [hw7]; exact cell_of_heap HP7.out rfl)
      have K7 : Hid (w7.cell? ⟨bp, 5, none⟩ = some v) := Lib.hid (cell_of_heap HP7.out rfl)
      have HW7 := Lib.hid hw7
      have HO7 := Lib.hid (owns_ext HO6.out hx7)
      have HM6 := Lib.hid hm6
      have H7 := Lib.hid h7
      clear hw7 h7 hx7 hm6
      have k6 := K6.out
      have k6a := K6a.out
      go_region_law (first
        | (refine step_call_pure (by rfl) 28 _ _ (by rfl) _ _ (HSZ.out _) (by kernel_rfl) ?_)
        | (rw [HW7.out]; refine step_append_all (by rfl) _ _ 74 (by rfl) bse 140 i0 (.agg #[.slice none 0 0, .int .u32 0, .int .i64 0]) 3 40 Try.underlying74 hi hz0 hz1 hz2 (by rfl) (by decide) v k (btC L) (by rfl) HI7.out.r 1 _ _ (by rfl) HU7.out (by simp [btC, Bt.C, Value.oneCell']) (by unfold maxLen; omega) (by omega) (by have := HR.out.2.2.2.2; have := HX7.out.size; omega) ?_; intro v' w8 hown8 hgrow8; obtain ⟨a8, cap8, rfl⟩ := owns_form hown8; have HP8 := Lib.hid (show DpAt w8 bp (plZ W H F d s) v from grown_heap hgrow8 HP7.out (fun j hj e => own_ne HI7.out.r HP7.out (by decide) (e ▸ hj))); have F8 : w8.frozen? ⟨bp, 5, none⟩ = false := free_of_heap HP8.out; have N8 := heap_lt HP8.out; have HO8 := Lib.hid hown8; have HG8 := Lib.hid hgrow8; clear hown8 hgrow8; have K8 : Hid (w8.cell? ⟨bp, 5, none⟩ = some v) := Lib.hid (cell_of_heap HP8.out rfl); have k8 := K8.out))
      all_goals
        have hc9 : Chg [bp] w8 (w8.setCell ⟨bp, 5, none⟩ (.slice a8 (k + 1) cap8)) := (Chg.refl _ _).setCell (p := ⟨bp, 5, none⟩) (by simp) _
        have hp9 : DpAt (w8.setCell ⟨bp, 5, none⟩ (.slice a8 (k + 1) cap8)) bp (plZ W H F d s) (.slice a8 (k + 1) cap8) := heap_set (k := 5) (u := .slice a8 (k + 1) cap8) HP8.out
        have hi8 : NInv bse S w8 (.slice a8 (k + 1) cap8) (k + 1) (L ++ [⟨.slice (some ⟨m6, 0, none⟩) S S, 0, 0⟩]) := by
          refine ⟨by rw [List.length_append, HI7.out.l]; rfl, ?_, fun b hb => ?_⟩
          · have := HO8.out
            unfold btC at this ⊢
            rwa [List.flatMap_append]
          · rcases List.mem_append.1 hb with hb | hb
            · exact ⟨(HI7.out.c b hb).1, (HI7.out.c b hb).2.1, owns_grow (HI7.out.c b hb).2.2 HI7.out.r (by decide) HG8.out⟩
            · rw [List.mem_singleton.1 hb]
              have h7 := HO7.out
              rw [made_u8] at h7
              exact ⟨rfl, rfl, owns_grow h7 HI7.out.r (by decide) HG8.out⟩
        have hz8 := grown_heap HG8.out (HX7.out.heap HR.out.2.2.1) (fun j hj e => own_ne HI7.out.r (HX7.out.heap HR.out.2.2.1) (by decide) (e ▸ hj))
        have hx8 := (HR.out.2.2.2.1.trans HX7.out).grown HG8.out (fun j hj => by have h1 := owns_base HI7.out.r j hj; have h2 := HBS.out; have h3 := HX3.out.size; omega)
        have HFIN := Lib.hid (show DpAt (w8.setCell ⟨bp, 5, none⟩ (.slice a8 (k + 1) cap8)) bp (plZ W H F d s) (.slice a8 (k + 1) cap8) ∧ NInv bse S (w8.setCell ⟨bp, 5, none⟩ (.slice a8 (k + 1) cap8)) (.slice a8 (k + 1) cap8) (k + 1) (L ++ [⟨.slice (some ⟨m6, 0, none⟩) S S, 0, 0⟩]) ∧ (w8.setCell ⟨bp, 5, none⟩ (.slice a8 (k + 1) cap8)).heap[r]? = some (.cells #[.int .i64 0, .int .i64 0, .int .i64 0, .bool false, .bool false, .slice none 0 0] 76 (0, 0)) ∧ Ext w (w8.setCell ⟨bp, 5, none⟩ (.slice a8 (k + 1) cap8)) ∧ bse ≤ (w8.setCell ⟨bp, 5, none⟩ (.slice a8 (k + 1) cap8)).heap.size from ⟨hp9, hi8.chg HP8.out hc9, hc9.heap hz8 (by have := HB3.out; simp; omega), hx8.chgTrans hc9 (by have := HB.out; simp; omega), by have h1 := hc9.size; have h2 := HG8.out.size; have h3 := HX7.out.size; have h4 := HR.out.2.2.2.2; omega⟩)
        clear hc9 hp9 hi8 hz8 hx8 HP8 F8 N8 HO8 HG8 K8 k8 HX7 HP7 HI7 HU7 K6 K6a K7 HW7 HO7 H7 k6 k6a HX6 HO6 hrun6 K0
        go_wp2_with fail
        go_roundw
        case rel => exact ⟨k + 1, _, _, by omega, by go_num, HFIN⟩
        case measure => simp [intOf]; omega
    · obtain rfl : k = N := by omega
      have lp := DpAt.load HR.out.1
      have n1 := heap_lt HR.out.2.2.1
      obtain ⟨wz, hst, hq, hc⟩ := dp_put HR.out.2.2.1 (plZ W H F d s) (v := v) (by obtain ⟨a, c, rfl⟩ := owns_form HR.out.2.1.r; cases a <;> rfl)
      have HQ := Lib.hid hq
      have HIZ := Lib.hid (HR.out.2.1.chg HR.out.2.2.1 hc)
      have HXZ := Lib.hid (HR.out.2.2.2.1.chgTrans hc (by have := HB.out; simp; omega))
      clear hq hc
      go_wp2_with fail
      have hload := run_loadVar_whole (P := Try.prog) 76 _ HQ.out Try.underlying76 rfl (by kernel_rfl)
      refine bodyPost_ret (results_cell1 rfl _ _ _ _ rfl hload) rfl ?_
      refine ⟨v, L, rfl, ?_, HXZ.out⟩
      have hiz := HIZ.out
      rw [← HS.out] at hiz
      exact (hiz.dat HN.out.symm HOK.out).mono (fun k _ hk => by have h2 := HBS.out; have h3 := HX3.out.size; omega)
end
end Go.Proofs.Ytgdcdkajicgliaa
