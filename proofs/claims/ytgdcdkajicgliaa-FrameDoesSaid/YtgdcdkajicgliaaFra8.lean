/- Contract of Read. Conditions: each theorem's own premises. -/
import Derived.Test.YtgdcdkajicgliaaFraD
namespace Go.Proofs.Ytgdcdkajicgliaa
open Go.RowKit
set_option linter.unusedVariables false
set_option maxRecDepth 100000
set_option linter.unusedSimpArgs false

theorem wpListIn_copy_in {F : Fence} {n : Nat} {P : Program} {w : World} {ops : Array Oper} {rest : List Oper} {o : Oper} {a : Act} {Q : Exit → Act → World → Prop} (hgd : o.guard = none) (d s : Operand) (dT sT : TypeId)
    (ho : o.op = .call { callee := .builtin .copy, args := #[d, s], argTypes := #[dT, sT] }) (elem : TypeId) (hu : P.underlying dT = some (.slice elem)) (hsz : (P.info? elem).map (·.size) = some 1)
    (g off dLen dCap : Nat) (ad : Addr) (sLen sCap : Nat) (hd : a.eval d = .slice (some ⟨g, off, none⟩) dLen dCap) (hs : a.eval s = .slice (some ad) sLen sCap)
    (cur : List Value) (t : TypeId) (hg : w.heap[g]? = some (.cells cur.toArray t (0, 0))) (cs : List Value) (hn : cs.length = Nat.min sLen dLen)
    (hsrc : ∀ j v, cs[j]? = some v → w.cell? (ad.add j) = some v) (hfit : off + cs.length ≤ cur.length) (h1 : ∀ v ∈ cs, v.oneCell' = true)
    (h : ∀ w', Hid (w'.heap[g]? = some (.cells (splice cur off cs).toArray t (0, 0))) → Hid (Chg [g] w w') → wpListIn F n P ops Q rest (a.put o.dst (goInt cs.length)) w') : wpListIn F n P ops Q (o :: rest) a w := by
  refine wpListIn_plain hgd fun K hK => ?_
  have hrun := run_copy_row (P := P) w dT sT o.type elem g off dLen dCap ad sLen sCap cur.toArray t cs hu hsz hg hn hsrc (by simpa using hfit) h1
  unfold Oper.wpIn
  refine ⟨?_, ?_⟩
  · simp [Oper.about, ho, resolve, Target.leads, Sem.run_pure]
  · rw [Oper.semAt_plain F _ _ (by rw [ho]; intro c hc'; cases hc')]
    simp [execOp, ho, resolve, invoke, builtin, hd, hs, hrun, Result.andThen]
    exact hK _ _ (h _ (show _ = _ by simpa [splice] using setRow_heap w g _ _ t _ hg) (chg_setRow (Chg.refl _ _) (by simp) _))
/-- Read's arguments in their blocks. -/
structure RdAt (w : World) (n pp : Nat) (x y : Int) (wd : Int) : Prop where
  a : w.heap[n]? = some (.cells #[.pointer (some ⟨pp, 0, none⟩)] 29 (0, 0))
  b : w.heap[n + 1]? = some (.cells #[.int .i64 x] 3 (0, 0))
  c : w.heap[n + 1 + 1]? = some (.cells #[.int .i64 y] 3 (0, 0))
  d : w.heap[n + 1 + 1 + 1]? = some (.cells #[.int .i64 wd] 3 (0, 0))
theorem RdAt.ext {w w' : World} {n pp : Nat} {x y wd : Int} (h : RdAt w n pp x y wd) (k : Ext w w') : RdAt w' n pp x y wd := ⟨k.heap h.a, k.heap h.b, k.heap h.c, k.heap h.d⟩
theorem RdAt.chg {M : List Nat} {w w' : World} {n pp : Nat} {x y wd : Int} (h : RdAt w n pp x y wd) (k : Chg M w w') (hM : ∀ m, m ∈ M → n + 1 + 1 + 1 < m ∨ m < n) : RdAt w' n pp x y wd :=
  ⟨k.heap h.a (fun hk => by have := hM _ hk; omega), k.heap h.b (fun hk => by have := hM _ hk; omega), k.heap h.c (fun hk => by have := hM _ hk; omega), k.heap h.d (fun hk => by have := hM _ hk; omega)⟩
theorem heap4x (w : World) (A B C D : Obj) : ∃ w6, ((((w.alloc A).alloc B).alloc C).alloc D) = w6 ∧ w6.heap[w.heap.size]? = some A ∧ w6.heap[w.heap.size + 1]? = some B ∧ w6.heap[w.heap.size + 1 + 1]? = some C ∧ w6.heap[w.heap.size + 1 + 1 + 1]? = some D ∧ Ext w w6 := by
  obtain ⟨w6, e, h1, h2, h3, h4, _, _, hx⟩ := heap6x w A B C D D D
  have x1 : ∀ (v : World) (X : Obj), Ext v (v.alloc X) := fun v X => (Ext.refl _).alloc _
  have hs : ∀ (v : World) (X : Obj), (v.alloc X).heap.size = v.heap.size + 1 := fun v X => World.size_alloc _ _
  have g1 := heap_alloc_new w A
  have g2 := heap_alloc_new (w.alloc A) B
  have g3 := heap_alloc_new ((w.alloc A).alloc B) C
  have g4 := heap_alloc_new (((w.alloc A).alloc B).alloc C) D
  simp only [hs] at g2 g3 g4
  have y3 := x1 (((w.alloc A).alloc B).alloc C) D
  have y2 := (x1 ((w.alloc A).alloc B) C).trans y3
  have y1 := (x1 (w.alloc A) B).trans y2
  exact ⟨_, rfl, y1.heap g1, y2.heap g2, y3.heap g3, g4, (x1 w A).trans y1⟩
theorem fld_ce (a b c d p s : Value) (w : World) : (Instr.field 45 (.agg #[a, b, c, d, p, s]) 0).run Try.prog w = .ok (.agg #[a, b, c, d]) w := by kernel_rfl
section
attribute [local go_sem ↓] Ld_V4 St_V4 Ld_Ce St_Ce Ld_St Ld_Pc St_Pc Ld_Sd
attribute [local go_sem] Oper.semAt_some fld_ce
theorem read_nil (x y wd h : Int) (w : World) : Calls Try.prog 17 #[.pointer none, .int .i64 x, .int .i64 y, .int .i64 wd, .int .i64 h] w fun e w' => e = .returned (.tuple #[.slice none 0 0, .int .i64 1]) ∧ Ext w w' := by
  go_enter Try.func17, Try.ntmps17
  go_upto_region 1 with fail
  obtain ⟨w6, e6, h1, h2, h3, h4, hx6⟩ := heap4x w (.cells #[.pointer none] 29) (.cells #[.int .i64 x] 3) (.cells #[.int .i64 y] 3) (.cells #[.int .i64 wd] 3)
  rw [e6]
  have c0 : w6.cell? ⟨w.heap.size, 0, none⟩ = some (.pointer none) := cell_of_heap h1 rfl
  have n0 := heap_lt h1
  clear h2 h3 h4
  go_wp2_with fail
  go_ret2
  exact ⟨rfl, hx6⟩
theorem read_arg (p : Nat) (x y wd h : Int) (hb : wd < 0 ∨ h < 0 ∨ 64 < wd ∨ 64 < h) (w : World) : Calls Try.prog 17 #[.pointer (some ⟨p, 0, none⟩), .int .i64 x, .int .i64 y, .int .i64 wd, .int .i64 h] w fun e w' => e = .returned (.tuple #[.slice none 0 0, .int .i64 2]) ∧ Ext w w' := by
  have hc : wd < 0 ∨ (0 ≤ wd ∧ h < 0) ∨ (0 ≤ wd ∧ 0 ≤ h ∧ 64 < wd) ∨ (0 ≤ wd ∧ 0 ≤ h ∧ wd ≤ 64 ∧ 64 < h) := by omega
  clear hb
  rcases hc with h1 | ⟨h1, h2⟩ | ⟨h1, h2, h3⟩ | ⟨h1, h2, h3, h4⟩
  all_goals
    go_enter Try.func17, Try.ntmps17
    go_upto_region 1 with fail
    obtain ⟨w6, e6, g1, g2, g3, g4, hx6⟩ := heap4x w (.cells #[.pointer (some ⟨p, 0, none⟩)] 29) (.cells #[.int .i64 x] 3) (.cells #[.int .i64 y] 3) (.cells #[.int .i64 wd] 3)
    rw [e6]
    have c0 : w6.cell? ⟨w.heap.size, 0, none⟩ = some (.pointer (some ⟨p, 0, none⟩)) := cell_of_heap g1 rfl
    have c3 : w6.cell? ⟨w.heap.size + 1 + 1 + 1, 0, none⟩ = some (.int .i64 wd) := cell_of_heap g4 rfl
    have n0 := heap_lt g1
    have n3 := heap_lt g4
    clear g1 g2 g3 g4
    go_wp2_with fail
    go_ret2
    exact ⟨rfl, hx6⟩
set_option maxHeartbeats 8000000 in
theorem read_any (B : Pb) (P : Pl) (x y : Int) (wd h : Nat) (hx : -9223372036854775808 ≤ x ∧ x ≤ 9223372036854775807) (hy : -9223372036854775808 ≤ y ∧ y ≤ 9223372036854775807) (hw : wd ≤ 64) (hh : h ≤ 64) (w : World) (hp : PlAt w B P) : Calls Try.prog 17 #[.pointer (some ⟨B.p, 0, none⟩), .int .i64 x, .int .i64 y, .int .i64 wd, .int .i64 h] w fun e w' => ∃ g, e = .returned (.tuple #[.slice (some ⟨g, 0, none⟩) (4 * wd * h) (4 * wd * h), .int .i64 0]) ∧ w.heap.size ≤ g ∧ w'.heap[g]? = some (.cells ((rdV P x y wd h).map (Value.int .u8)).toArray 5 (0, 0)) ∧ Ext w w' := by
  have HP := Lib.hid hp
  have i1 : ¬ (wd : Int) < 0 := by omega
  have i2 : ¬ (h : Int) < 0 := by omega
  have i3 : ¬ (64 : Int) < (wd : Int) := by omega
  have i4 : ¬ (64 : Int) < (h : Int) := by omega
  have hab : 4 * wd ≤ 256 := by omega
  have hac : 4 * wd * h ≤ 16384 := Nat.mul_le_mul hab hh
  have s1 : IntKind.i64.wrap (4 * (wd : Int)) = ((4 * wd : Nat) : Int) := by rw [Int.natCast_mul]; exact IntWalk.i64_in _ (by omega)
  have s2 : IntKind.i64.wrap (((4 * wd : Nat) : Int) * (h : Int)) = ((4 * wd * h : Nat) : Int) := by rw [← Int.natCast_mul]; exact IntWalk.i64_in _ (by omega)
  have HBL : Hid (B.p < w.heap.size ∧ B.c < w.heap.size ∧ B.d < w.heap.size ∧ B.m < w.heap.size) := Lib.hid ⟨heap_lt hp.p, heap_lt hp.c, heap_lt hp.d, heap_lt hp.m⟩
  obtain ⟨A4, hA4⟩ : ∃ A4, 4 * wd = A4 := ⟨_, rfl⟩
  obtain ⟨N4, hN4⟩ : ∃ N4, 4 * wd * h = N4 := ⟨_, rfl⟩
  have HN4 := Lib.hid hN4
  rw [hN4] at s2 hac
  rw [hA4] at s1 s2
  have m1 : ∀ w : World, (Instr.makeSlice 48 (.int .i64 (N4 : Int)) (.int .i64 (N4 : Int))).run Try.prog w = .ok (.slice (some ⟨w.heap.size, 0, none⟩) N4 N4) (w.alloc (.cells (madeCells #[.int .u8 0] N4) 5)) := fun w => run_make_row' _ _ _ 1 Try.underlying48 info_u8f rfl _ _ N4 (by omega) (by omega) w
  clear hp hA4 hN4 hab
  refine calls_of_marks Try.func17 rfl ?_
  simp only [Try.ntmps17, List.size_toArray, List.length_cons, List.length_nil, Nat.reduceAdd, Nat.reduceSub, Array.replicate_succ, Array.replicate_zero, List.push_toArray, List.append_toArray, List.nil_append, List.cons_append]
  go_upto_region 1 with fail
  obtain ⟨w6, e6, h1, h2, h3, h4, hx6⟩ := heap4x w (.cells #[.pointer (some ⟨B.p, 0, none⟩)] 29) (.cells #[.int .i64 x] 3) (.cells #[.int .i64 y] 3) (.cells #[.int .i64 wd] 3)
  rw [e6]
  obtain ⟨n, hn⟩ : ∃ n, w.heap.size = n := ⟨_, rfl⟩
  rw [hn] at h1 h2 h3 h4
  rw [hn]
  have HN := Lib.hid hn
  have HC6 : Hid (RdAt w6 n B.p x y wd) := Lib.hid ⟨h1, h2, h3, h4⟩
  have HX6 := Lib.hid hx6
  have c0 : w6.cell? ⟨n, 0, none⟩ = some (.pointer (some ⟨B.p, 0, none⟩)) := cell_of_heap h1 rfl
  have c3 : w6.cell? ⟨n + 1 + 1 + 1, 0, none⟩ = some (.int .i64 wd) := cell_of_heap h4 rfl
  have n3 := heap_lt h4
  have n31 : n < w6.heap.size := by omega
  clear h1 h2 h3 h4 hx6 e6 hn
  go_upto_region 6 with fail
  rw [made_ints]
  obtain ⟨w8, e8, hg8, ho8, hx8⟩ := heap2x w6 (.cells ((List.replicate N4 (0 : Int)).map (Value.int .u8)).toArray 5) (.cells #[.slice (some ⟨w6.heap.size, 0, none⟩) N4 N4] 48)
  rw [e8]
  obtain ⟨g, hg⟩ : ∃ g, w6.heap.size = g := ⟨_, rfl⟩
  have HG : Hid (n + 1 + 1 + 1 < g ∧ w.heap.size ≤ g) := Lib.hid (by have := heap_lt HC6.out.d; have := HX6.out.size; omega)
  rw [hg] at hg8 ho8
  rw [hg]
  have HC8 := Lib.hid (HC6.out.ext hx8)
  have HX8 := Lib.hid (HX6.out.trans hx8)
  have HG8 := Lib.hid hg8
  have HO8 := Lib.hid ho8
  have HP8 := Lib.hid (HP.out.ext HX8.out)
  clear hg8 ho8 hx8 e8 hg c0 c3 n3 n31 HC6 HX6 m1 i1 i2 i3 i4 s1 s2
  have c0 : w8.cell? ⟨n, 0, none⟩ = some (.pointer (some ⟨B.p, 0, none⟩)) := cell_of_heap HC8.out.a rfl
  have c1 : w8.cell? ⟨n + 1, 0, none⟩ = some (.int .i64 x) := cell_of_heap HC8.out.b rfl
  have c2 : w8.cell? ⟨n + 1 + 1, 0, none⟩ = some (.int .i64 y) := cell_of_heap HC8.out.c rfl
  have c3 : w8.cell? ⟨n + 1 + 1 + 1, 0, none⟩ = some (.int .i64 wd) := cell_of_heap HC8.out.d rfl
  have l1 := HP8.out.loadSd
  have l1d := (HP8.out.ext (Ext.refl _).drew).loadSd
  have n8 := heap_lt HC8.out.a
  have np8 := heap_lt HP8.out.p
  go_region_held3 (fun w' => w'.cell? ⟨n, 0, none⟩ = some (.pointer (some ⟨B.p, 0, none⟩)) ∧ w'.cell? ⟨n + 1, 0, none⟩ = some (.int .i64 x) ∧ w'.cell? ⟨n + 1 + 1, 0, none⟩ = some (.int .i64 y) ∧ w'.cell? ⟨n + 1 + 1 + 1, 0, none⟩ = some (.int .i64 wd) ∧ (@Classical.epsilon _ neV (LdP 117 (.pointer (some ⟨B.p, 0, none⟩)))).run Try.prog w' = .ok (.agg #[.int .i64 P.W, .int .i64 P.H]) w') (go_keep) ((go_at_call 60; refine (cells_any P.W P.H ⟨x, y, wd, h⟩ _).mono ?_; rintro _ w12 ⟨s2, s3, rfl, hs2, hs3, h2, h3, hx12⟩; have g0 := hx12.cell c0; have g1 := hx12.cell c1; have g2 := hx12.cell c2; have g3 := hx12.cell c3; have g4 := (HP8.out.ext ((Ext.refl _).drew.trans hx12)).loadSd))
  have HX12 := Lib.hid (HX8.out.trans ((Ext.refl _).drew.trans hx12))
  have HC12 := Lib.hid (HC8.out.ext ((Ext.refl _).drew.trans hx12))
  have HG12 := Lib.hid (((Ext.refl _).drew.trans hx12).heap HG8.out)
  have HO12 := Lib.hid (((Ext.refl _).drew.trans hx12).heap HO8.out)
  have H2 := Lib.hid h2
  have H3 := Lib.hid h3
  have HS23 : Hid (g < s2 ∧ g < s3 ∧ g < w12.heap.size) := Lib.hid (by have h9 := heap_lt HO8.out; have e9 : w8.drew.heap.size = w8.heap.size := rfl; have := heap_lt HG12.out; omega)
  have n2 := heap_lt h2
  have n3 := heap_lt h3
  clear h2 h3 hx12 hs2 hs3 HC8 HG8 HO8 HP8 c0 c1 c2 c3 l1 l1d g0 g1 g2 g3 g4 n8 np8 HX8
  go_wp2_with fail
  refine range_lawT rfl (enters_of Try.func89 (by kernel_rfl) rfl) (cells_tells s2 s3 P.W P.H ⟨x, y, wd, h⟩ w12 H2.out H3.out HP.out.ok.w2 HP.out.ok.h2) (Below.refl _ _)
    (fun k hk => by rcases hk with rfl | rfl <;> assumption) (fun k args W h => by obtain ⟨q, _, h⟩ := h; rw [h]; rfl) (fun k args A B h _ => h)
    (fun k W => W.heap[g]? = some (.cells ((rdk P x y wd h k).map (Value.int .u8)).toArray 5 (0, 0)) ∧ Chg [g] w12 W) (fun _ _ => False)
    (fun k A B h t => ⟨t.cells h.1, h.2.turn t (Nat.le_refl _)⟩) (fun _ _ _ h _ => h) ⟨by have := HG12.out; rw [← HN4.out] at this; exact this, Chg.refl _ _⟩
    (fun t k args a' W => a' = { tmps := (((t.setIfInBounds 52 (args.getD 0 undef)).setIfInBounds 53 (args.getD 1 undef)).setIfInBounds 13 (args.getD 0 undef)).setIfInBounds 14 (args.getD 1 undef), defers := [] }) (fun t k args a' A B h x => h) ?assign ?body ?done ?stop
  case assign =>
    rintro lp k args W K hk ⟨hpl, hch⟩ ⟨q, hq, hg⟩ hK
    subst hg
    gi_wp2
    exact hK _ _ (Ext.refl _) rfl
  case stop => rintro D c W _ h; exact h.elim
  case body =>
    rintro lp k args a' W hk hsz ⟨hgk, hch⟩ ⟨q, hq, hga⟩ ha
    subst hga
    subst ha
    have HQ := Lib.hid hq
    obtain ⟨xq, yq⟩ := q
    have hmem := List.mem_of_getElem? hq
    obtain ⟨hxW, hyH, _⟩ := box_mem hmem
    obtain ⟨hx1, hx2, hy1, hy2, hfit⟩ := rd_pos HP.out.ok.w2 HP.out.ok.h2 hx hy hw hh hmem
    simp only at hxW hyH hx1 hx2 hy1 hy2
    obtain ⟨r, hr⟩ : ∃ r : Nat, (yq : Int) - y = r := ⟨((yq : Int) - y).toNat, by omega⟩
    obtain ⟨c, hc⟩ : ∃ c : Nat, (xq : Int) - x = c := ⟨((xq : Int) - x).toNat, by omega⟩
    have hW := HP.out.ok.w2
    have hH := HP.out.ok.h2
    have hrw : r * wd ≤ 64 * 64 := Nat.mul_le_mul (by omega) hw
    obtain ⟨M, hM⟩ : ∃ M, r * wd = M := ⟨_, rfl⟩
    have HE : Hid (rdAt x y wd (xq, yq) = 4 * (M + c)) := Lib.hid (by
      unfold rdAt
      have e : ((yq : Int) - y) * (wd : Int) + (xq : Int) - x = ((M + c : Nat) : Int) := by
        rw [hr, Int.natCast_add, ← hM, Int.natCast_mul]
        omega
      show (4 * (((yq : Int) - y) * (wd : Int) + (xq : Int) - x)).toNat = _
      rw [e]
      omega)
    rw [HE.out, HN4.out] at hfit
    have HSU := Lib.hid (rdk_succ (P := P) (x := x) (y := y) (w := wd) (h := h) hq)
    have hkl := (List.getElem?_eq_some_iff.1 hq).1
    have HRL := Lib.hid ((rdk_len P hW hH hx hy hw hh k (by omega)).trans HN4.out)
    have hcl : RdAt W n B.p x y wd := HC12.out.chg hch (by have := HG.out; simp; omega)
    have ho : W.heap[g + 1]? = some (.cells #[.slice (some ⟨g, 0, none⟩) N4 N4] 48 (0, 0)) := hch.heap HO12.out (by simp)
    have hpl : PlAt W B P := (HP.out.ext HX12.out).chg hch (by have := HBL.out; have := HG.out; simp; omega) (by have := HBL.out; have := HG.out; simp; omega) (by have := HBL.out; have := HG.out; simp; omega) (by have := HBL.out; have := HG.out; simp; omega)
    have HPL := Lib.hid hpl
    have HCL := Lib.hid hcl
    have HO := Lib.hid ho
    have HGK := Lib.hid hgk
    have HCH := Lib.hid hch
    have c0 : W.cell? ⟨n, 0, none⟩ = some (.pointer (some ⟨B.p, 0, none⟩)) := cell_of_heap hcl.a rfl
    have nW := heap_lt hcl.a
    have npW := heap_lt hpl.p
    have l1 := hpl.loadSd
    have HAT := Lib.hid (at_in P.W P.H xq yq hxW hyH hW hH)
    have hi := place_lt hxW hyH
    obtain ⟨i, hi0⟩ : ∃ i, yq * P.W + xq = i := ⟨_, rfl⟩
    rw [hi0] at HAT hi
    have HSU2 : Hid (rdk P x y wd h (k + 1) = splice (rdk P x y wd h k) (4 * (M + c)) (lowB (packX 1 (cellV P i).v.L) 4)) := Lib.hid (by rw [HSU.out, ← hi0, ← HE.out]; rfl)
    have hcin := (cellV_in HP.out.ok hi).1.1
    have HCE : Hid (∀ (w' : World), PlAt w' B P → Calls Try.prog 62 #[.pointer (some ⟨B.p, 0, none⟩), .int .i64 i] w' fun e w'' => e = .returned (.agg #[.int .i32 (cellV P i).v.a, .int .i32 (cellV P i).v.b, .int .i32 (cellV P i).v.c, .int .i32 (cellV P i).v.d, .int .i32 (cellV P i).dep, .int .i64 (cellV P i).sten]) ∧ Ext w' w'') := Lib.hid (fun w' h => cell_any B P i hi w' h)
    have HPK : Hid (∀ w', Calls Try.prog 65 #[.int .i64 1, .agg #[.int .i32 (cellV P i).v.a, .int .i32 (cellV P i).v.b, .int .i32 (cellV P i).v.c, .int .i32 (cellV P i).v.d]] w' fun e w'' => ∃ a cap, e = .returned (.tuple #[.slice a 4 cap, .int .i64 0]) ∧ Ints .u8 w'' (.slice a 4 cap) (lowB (packX 1 (cellV P i).v.L) 4) ∧ Ext w' w'') := Lib.hid fun w' => pack_any 1 (cellV P i).v.L w' (by omega) (by omega) rfl hcin
    obtain ⟨bs, hbs⟩ : ∃ bs, lowB (packX 1 (cellV P i).v.L) 4 = bs := ⟨_, rfl⟩
    have HBL4 := Lib.hid (lowB_length 4 (packX 1 (cellV P i).v.L))
    rw [hbs] at HPK HSU2 HBL4
    generalize cellV P i = ce at *
    obtain ⟨⟨ca, cb, cc, cd⟩, cp, cs⟩ := ce
    have t1 : IntKind.i64.wrap ((yq : Int) - y) = (r : Int) := by rw [hr]; exact IntWalk.i64_in _ (by omega)
    have t2 : IntKind.i64.wrap ((r : Int) * (wd : Int)) = (M : Int) := by rw [← Int.natCast_mul, hM]; exact IntWalk.i64_in _ (by omega)
    obtain ⟨M2, hM2⟩ : ∃ M2, M + xq = M2 := ⟨_, rfl⟩
    have t3 : IntKind.i64.wrap ((M : Int) + (xq : Int)) = (M2 : Int) := by rw [← Int.natCast_add, hM2]; exact IntWalk.i64_in _ (by omega)
    obtain ⟨D, hD⟩ : ∃ D, M + c = D := ⟨_, rfl⟩
    have t4 : IntKind.i64.wrap ((M2 : Int) - x) = (D : Int) := by rw [show (M2 : Int) - x = (D : Int) by omega]; exact IntWalk.i64_in _ (by omega)
    obtain ⟨E, hE⟩ : ∃ E, 4 * D = E := ⟨_, rfl⟩
    have t5 : IntKind.i64.wrap (4 * (D : Int)) = (E : Int) := by rw [show 4 * (D : Int) = (E : Int) by omega]; exact IntWalk.i64_in _ (by omega)
    rw [hD, hE] at hfit HSU2
    have p0 : (0 : Int) ≤ (E : Int) := by omega
    have p1 : (E : Int) ≤ (N4 : Int) := by omega
    have p2 : ¬ N4 = E := by omega
    obtain ⟨X2, hX2⟩ : ∃ X2, (rdk P x y wd h k).map (Value.int .u8) = X2 := ⟨_, rfl⟩
    rw [hX2] at HGK
    have HX2 := Lib.hid hX2
    have HLX : Hid (X2.length = N4) := Lib.hid (by rw [← hX2, List.length_map]; exact HRL.out)
    have hfit2 : E + 4 ≤ N4 := hfit
    clear hch hcl ho hpl hq hk hi0 HSU hM hr hc hx1 hx2 hy1 hy2 hfit hmem hxW hyH hW hH hrw hM2 hD hE hX2 hbs hgk hsz H2 H3 HC12 HG12 HO12 HE hkl hi HQ hcin HRL
    have HSRC : Hid (∀ (w' : World) (b off : Nat), (∀ j, j < bs.length → w'.cell? ⟨b, off + j, none⟩ = some (.int .u8 (bs.getD j 0))) → ∀ (j : Nat) (v : Value), (bs.map (Value.int .u8))[j]? = some v → w'.cell? ((⟨b, off, none⟩ : Addr).add j) = some v) := Lib.hid fun w' b off hcell j v hv => by
      have hj : j < bs.length := by have := (List.getElem?_eq_some_iff.1 hv).1; simpa using this
      rw [Addr.add_lit, hcell j hj]
      rw [List.getElem?_map, List.getElem?_eq_getElem hj] at hv
      rw [List.getD_eq_getElem?_getD, List.getElem?_eq_getElem hj]
      simpa using hv
    obtain ⟨X1, hX1⟩ : ∃ X1, bs.map (Value.int .u8) = X1 := ⟨_, rfl⟩
    have HX1E := Lib.hid hX1
    rw [hX1] at HSRC
    have HB1 : Hid (X1.length = 4) := Lib.hid (by rw [← hX1, List.length_map]; exact HBL4.out)
    have HONE : Hid (∀ v ∈ X1, v.oneCell' = true) := Lib.hid (by rw [← hX1]; exact int_one)
    clear hX1
    gi_wp2_with (first
      | (refine ⟨trivial, callR ((HAT.out _).mono ?_)⟩; rintro _ w13 ⟨rfl, hx13⟩; have c0 := hx13.cell c0)
      | (refine ⟨trivial, callR ((HCE.out _ (HPL.out.ext hx13)).mono ?_)⟩; rintro _ w14 ⟨rfl, hx14⟩)
      | (refine ⟨trivial, callR ((HPK.out _).mono ?_)⟩; rintro _ w15 ⟨ap, cap, rfl, hip, hx15⟩; obtain ⟨b, off, rfl, hb, hcell⟩ := hip.pos (by rw [HBL4.out]; omega); have HX15 := Lib.hid ((hx13.trans hx14).trans hx15); have HCELL := Lib.hid (HSRC.out _ _ _ hcell); have HG15 := Lib.hid (HX15.out.heap HGK.out); have hcl := HCL.out.ext HX15.out; have c1 : w15.cell? ⟨n + 1, 0, none⟩ = some (.int .i64 x) := cell_of_heap hcl.b rfl; have c2 : w15.cell? ⟨n + 1 + 1, 0, none⟩ = some (.int .i64 y) := cell_of_heap hcl.c rfl; have c3 : w15.cell? ⟨n + 1 + 1 + 1, 0, none⟩ = some (.int .i64 wd) := cell_of_heap hcl.d rfl; have c4 : w15.cell? ⟨g + 1, 0, none⟩ = some (.slice (some ⟨g, 0, none⟩) N4 N4) := cell_of_heap (HX15.out.heap HO.out) rfl; clear hip hcell hcl hx15)
      | (refine wpListIn_copy_in rfl _ _ 48 48 rfl 5 Try.underlying48 (by kernel_rfl) g E (N4 - E) (N4 - E) ⟨b, off, none⟩ 4 cap rfl rfl X2 5 HG15.out X1 (by rw [HB1.out]; exact (Nat.min_eq_left (by omega)).symm) HCELL.out (by rw [HB1.out, HLX.out]; exact hfit2) HONE.out ?_; intro w16 HG16 HC16))
    have hcc := (HX15.out.chg [g]).trans HC16.out
    refine ⟨hcc.keeps (fun k hk => .inl ?_), hcc.kept (fun k hk hs => ?_), ?_, HCH.out.trans hcc⟩
    · have h1 := HS23.out
      simp at hk
      omega
    · have h1 := HS23.out
      simp at hk
      unfold cS at hs
      omega
    · rw [HSU2.out, splice_map, HX1E.out, HX2.out]
      exact HG16.out
  case done =>
    rintro D W hD ⟨hgk, hch⟩ hDW
    have hsz : w.heap.size ≤ w12.heap.size := HX12.out.size
    have HMK := Lib.hid ((Marks.nil w.heap.size w12).more hch (by
      intro m hm
      simp only [List.mem_cons, List.not_mem_nil, or_false] at hm
      subst hm
      exact ⟨_, HG12.out, rfl⟩) hsz hD hDW)
    rw [rdk_all] at hgk
    have HGK := Lib.hid hgk
    have HXE : Hid (Ext w W) := Lib.hid (HX12.out.chgTrans hch (by have := HG.out; simp; omega))
    have ho := hch.heap HO12.out (by simp)
    have c4 : W.cell? ⟨g + 1, 0, none⟩ = some (.slice (some ⟨g, 0, none⟩) N4 N4) := cell_of_heap ho rfl
    have n4 := heap_lt ho
    clear hgk hch hDW hsz n2 n3 ho
    go_wp2_with fail
    refine retM HMK.out fun W3 ht => ?_
    refine ⟨.tuple #[.slice (some ⟨g, 0, none⟩) N4 N4, .int .i64 0], by simp [results, go_sem, Try.f17], g, by rw [HN4.out], HG.out.2, ht.cells HGK.out, HXE.out.turned ht (Nat.le_refl _)⟩
end
end Go.Proofs.Ytgdcdkajicgliaa
