/- Contract of Clear. Conditions: each theorem's own premises. -/
import Derived.Test.YtgdcdkajicgliaaFra6
import Derived.Test.YtgdcdkajicgliaaRnd
namespace Go.Proofs.Ytgdcdkajicgliaa
open Go.RowKit
set_option linter.unusedVariables false
set_option maxRecDepth 100000
set_option linter.unusedSimpArgs false

theorem zero_piece (w : World) : (zeroValue 35).run Try.prog w = .ok (.agg #[.int .i64 0, .int .i64 0, .int .i64 0, .int .i64 0]) w := by kernel_rfl
theorem Ld_Pc (v : Value) : Instr.loadAt 35 v = @Classical.epsilon _ neV (LdP 35 v) := Ld_fold _ _
theorem St_Pc (v u : Value) : Instr.storeAt 35 v u = @Classical.epsilon _ neU (StP 35 v u) := St_fold _ _ _
theorem Ld_Sd (v : Value) : Instr.loadAt 117 v = @Classical.epsilon _ neV (LdP 117 v) := Ld_fold _ _
/-- A box in its block. -/
def BxAt (w : World) (b : Nat) (x : Bx) : Prop := w.heap[b]? = some (.cells x.C 35 (0, 0))
theorem BxAt.heap_ext {w w' : World} {b : Nat} {x : Bx} (h : BxAt w b x) (k : Ext w w') : BxAt w' b x := k.heap h
theorem BxAt.load {w : World} {b : Nat} {x : Bx} (h : BxAt w b x) : (@Classical.epsilon _ neV (LdP 35 (.pointer (some ⟨b, 0, none⟩)))).run Try.prog w = .ok (.agg x.C) w :=
  ld_ok (cs := [.int .i64 x.x, .int .i64 x.y, .int .i64 x.w, .int .i64 x.h]) _ (range_cells (L := [.int .i64 x.x, .int .i64 x.y, .int .i64 x.w, .int .i64 x.h]) h (fun j v hv => by simpa using hv)) Try.underlying35 rfl (by kernel_rfl)
theorem BxAt.store {w : World} {b : Nat} {x : Bx} (h : BxAt w b x) (y : Bx) : (@Classical.epsilon _ neU (StP 35 (.pointer (some ⟨b, 0, none⟩)) (.agg y.C))).run Try.prog w = .ok () (w.setCells b 0 y.C.toList) ∧ BxAt (w.setCells b 0 y.C.toList) b y ∧ Chg [b] w (w.setCells b 0 y.C.toList) := by
  obtain ⟨h1, h2, h3⟩ := stF_mid (w := w) (b := b) 35 (L := [.int .i64 x.x, .int .i64 x.y, .int .i64 x.w, .int .i64 x.h]) h 0 y.C.toList (by simp [Bx.C]) (by kernel_rfl) (by simp [Bx.C, Value.oneCell'])
  exact ⟨h1, h2, h3⟩
theorem newBx (w : World) (y : Bx) : ∃ w', (@Classical.epsilon _ neU (StP 35 (.pointer (some ⟨w.heap.size, 0, none⟩)) (.agg #[.int .i64 y.x, .int .i64 y.y, .int .i64 y.w, .int .i64 y.h]))).run Try.prog (w.alloc (.cells #[.int .i64 0, .int .i64 0, .int .i64 0, .int .i64 0] 35)) = .ok () w' ∧ BxAt w' w.heap.size y ∧ Ext w w' := by
  have h : BxAt (w.alloc (.cells #[.int .i64 0, .int .i64 0, .int .i64 0, .int .i64 0] 35)) w.heap.size ⟨0, 0, 0, 0⟩ := heap_alloc_new _ _
  obtain ⟨h1, h2, h3⟩ := h.store y
  exact ⟨_, h1, h2, ((Ext.refl _).alloc _).chgTrans h3 (by simp)⟩
theorem newBxD (w : World) (y : Bx) : ∃ w', (@Classical.epsilon _ neU (StP 35 (.pointer (some ⟨w.heap.size, 0, none⟩)) (.agg #[.int .i64 y.x, .int .i64 y.y, .int .i64 y.w, .int .i64 y.h]))).run Try.prog (w.alloc (.cells #[.int .i64 0, .int .i64 0, .int .i64 0, .int .i64 0] 35)).drew = .ok () w' ∧ BxAt w' w.heap.size y ∧ Ext w w' := by
  have h : BxAt (w.alloc (.cells #[.int .i64 0, .int .i64 0, .int .i64 0, .int .i64 0] 35)).drew w.heap.size ⟨0, 0, 0, 0⟩ := heap_alloc_new _ _
  obtain ⟨h1, h2, h3⟩ := h.store y
  exact ⟨_, h1, h2, ((Ext.refl _).alloc _).drew.chgTrans h3 (by simp)⟩
theorem StAt.loadBx {w : World} {b : Nat} {s : St} (h : StAt w b s) : (@Classical.epsilon _ neV (LdP 35 (.pointer (some ⟨b, 1, none⟩)))).run Try.prog w = .ok (.agg (⟨s.x, s.y, s.w, s.h⟩ : Bx).C) w :=
  ld_ok (cs := [.int .i64 s.x, .int .i64 s.y, .int .i64 s.w, .int .i64 s.h]) _ (range_cells h (fun j v hv => by
    have hj : j < 4 := by have := (List.getElem?_eq_some_iff.1 hv).1; exact this
    have : j = 0 ∨ j = 1 ∨ j = 2 ∨ j = 3 := by omega
    rcases this with rfl | rfl | rfl | rfl <;> exact hv)) Try.underlying35 rfl (by kernel_rfl)
theorem PlAt.loadSd {w : World} {B : Pb} {P : Pl} (h : PlAt w B P) : (@Classical.epsilon _ neV (LdP 117 (.pointer (some ⟨B.p, 0, none⟩)))).run Try.prog w = .ok (.agg #[.int .i64 P.W, .int .i64 P.H]) w :=
  ld_ok (cs := [.int .i64 P.W, .int .i64 P.H]) _ (range_cells h.p (fun j v hv => by
    have hj : j < 2 := by have := (List.getElem?_eq_some_iff.1 hv).1; exact this
    have : j = 0 ∨ j = 1 := by omega
    rcases this with rfl | rfl <;> exact hv)) Try.underlying117 rfl (by kernel_rfl)
theorem newFn (w : World) (v : Value) : (w.alloc (.cells #[v] 123)).heap[w.heap.size]? = some (.cells #[v] 123 (0, 0)) := heap_alloc_new _ _
theorem and1_on {n : Nat} (h : n % 2 = 1) : bits BinOp.and IntKind.i64 (n : Int) 1 = 1 := by
  have := and8 (n : Int) 1 (by decide)
  rw [show ((1 : Nat) : Int) = 1 from rfl] at this
  rw [this, Nat.and_one_is_mod]
  unfold byteN
  omega
theorem and1_off {n : Nat} (h : ¬ n % 2 = 1) : bits BinOp.and IntKind.i64 (n : Int) 1 = 0 := by
  have := and8 (n : Int) 1 (by decide)
  rw [show ((1 : Nat) : Int) = 1 from rfl] at this
  rw [this, Nat.and_one_is_mod]
  unfold byteN
  omega
set_option maxHeartbeats 1000000 in
theorem clampc_any (x : Int) (w : World) : Calls Try.prog 59 #[.int .i32 x] w fun e w' => e = .returned (.int .i32 (clV x)) ∧ w = w' := by
  by_cases h1 : x < 0
  · have hv := Lib.hid (show clV x = 0 by unfold clV; omega)
    go_enter Try.func59, Try.ntmps59
    go_wp2
    all_goals go_ret
    all_goals rw [hv.out]
    all_goals exact ⟨rfl, rfl⟩
  · by_cases h2 : 65536 < x
    · have hv := Lib.hid (show clV x = 65536 by unfold clV; omega)
      go_enter Try.func59, Try.ntmps59
      go_wp2
      all_goals go_ret
      all_goals rw [hv.out]
      all_goals exact ⟨rfl, rfl⟩
    · have hv := Lib.hid (show clV x = x by unfold clV; omega)
      go_enter Try.func59, Try.ntmps59
      go_wp2
      all_goals go_ret
      all_goals rw [hv.out]
      all_goals exact ⟨rfl, rfl⟩
theorem and2_at {n : Nat} (hw : n ≤ 7) : bits BinOp.and IntKind.i64 (n : Int) 2 = ((n &&& 2 : Nat) : Int) := by
  have := and8 (n : Int) 2 (by decide)
  rw [byteN_nat n (by omega)] at this
  exact this
theorem and4_at {n : Nat} (hw : n ≤ 7) : bits BinOp.and IntKind.i64 (n : Int) 4 = ((n &&& 4 : Nat) : Int) := by
  have := and8 (n : Int) 4 (by decide)
  rw [byteN_nat n (by omega)] at this
  exact this
theorem and24 : ∀ n : Fin 8, (n.val &&& 2 = if n.val / 2 % 2 = 1 then 2 else 0) ∧ (n.val &&& 4 = if n.val / 4 % 2 = 1 then 4 else 0) := by decide +kernel
theorem and2_on {n : Nat} (hw : n ≤ 7) (h : n / 2 % 2 = 1) : bits BinOp.and IntKind.i64 (n : Int) 2 = 2 := by
  rw [and2_at hw, (and24 ⟨n, by omega⟩).1, if_pos h]; rfl
theorem and4_on {n : Nat} (hw : n ≤ 7) (h : n / 4 % 2 = 1) : bits BinOp.and IntKind.i64 (n : Int) 4 = 4 := by
  rw [and4_at hw, (and24 ⟨n, by omega⟩).2, if_pos h]; rfl
theorem and4_off {n : Nat} (hw : n ≤ 7) (h : ¬ n / 4 % 2 = 1) : bits BinOp.and IntKind.i64 (n : Int) 4 = 0 := by
  rw [and4_at hw, (and24 ⟨n, by omega⟩).2, if_neg h]; rfl
theorem and2_off {n : Nat} {b : Bool} (hw : n ≤ 7) (h : ¬ (n / 2 % 2 = 1 ∧ b = true)) : bits BinOp.and IntKind.i64 (n : Int) 2 = 0 ∨ (bits BinOp.and IntKind.i64 (n : Int) 2 = 2 ∧ b = false) := by
  by_cases h1 : n / 2 % 2 = 1
  · exact .inr ⟨and2_on hw h1, by cases b <;> simp_all⟩
  · exact .inl (by rw [and2_at hw, (and24 ⟨n, by omega⟩).1, if_neg h1]; rfl)
theorem clr_in (s : St) (what : Nat) (color : V4) (c : Ce) (h : c.In) : ∀ x ∈ (if what % 2 = 1 then (⟨if s.m0 then color.cl.a else c.v.a, if s.m1 then color.cl.b else c.v.b, if s.m2 then color.cl.c else c.v.c, if s.m3 then color.cl.d else c.v.d⟩ : V4) else c.v).L, -2147483648 ≤ x ∧ x ≤ 2147483647 := by
  have ha := h.1 c.v.a (by simp [V4.L])
  have hb := h.1 c.v.b (by simp [V4.L])
  have hc := h.1 c.v.c (by simp [V4.L])
  have hd := h.1 c.v.d (by simp [V4.L])
  have ca := clV_in color.a
  have cb := clV_in color.b
  have cc := clV_in color.c
  have cd := clV_in color.d
  split
  · intro x hx
    simp only [V4.L, V4.cl, List.mem_cons, List.not_mem_nil, or_false] at hx
    rcases hx with rfl | rfl | rfl | rfl <;> split <;> omega
  · exact h.1
theorem outU_01 (X : Int) : ∀ (l : List (Nat × Nat × Nat)) (o : List Int), (∀ c ∈ l, 1 ≤ c.2.1 ∧ c.2.1 ≤ 8) → (∀ x ∈ o, 0 ≤ x ∧ x ≤ 65536) → ∀ x ∈ outU X l o, 0 ≤ x ∧ x ≤ 65536
  | [], o, _, ho => ho
  | c :: l, o, hl, ho => by
    refine outU_01 X l _ (fun d hd => hl d (by simp [hd])) (fun x hx => ?_)
    rcases List.mem_or_eq_of_mem_set hx with h1 | rfl
    · exact ho x h1
    · have hc := hl c (by simp)
      have hp := pow_bd c.2.1 hc.1 (by omega)
      exact num_bd _ _ (Int.emod_nonneg _ (by omega)) (Int.emod_lt_of_pos _ (by omega)) hc.1 (by omega)
theorem rest_01 (n : Nat) : ∀ x ∈ restL n, 0 ≤ x ∧ x ≤ 65536 := by
  intro x hx
  unfold restL at hx
  split at hx <;> simp at hx <;> omega
theorem unp_01 (n : Nat) (X : Int) : ∀ x ∈ unpV n X, 0 ≤ x ∧ x ≤ 65536 := by
  have h := outU_01 X (chL n) (restL n) (fun c hc => ⟨(ch_ok n c hc).2.1, (ch_ok n c hc).2.2.1⟩) (rest_01 n)
  have hg : ∀ k, 0 ≤ (outU X (chL n) (restL n)).getD k 0 ∧ (outU X (chL n) (restL n)).getD k 0 ≤ 65536 := by
    intro k
    rw [List.getD_eq_getElem?_getD]
    cases hk : (outU X (chL n) (restL n))[k]? with
    | none => simp
    | some x => exact h x (List.mem_of_getElem? hk)
  unfold unpV
  split
  · intro x hx
    simp only [List.mem_cons, List.not_mem_nil, or_false] at hx
    rcases hx with rfl | rfl | rfl | rfl <;> exact hg _
  · exact h
theorem unp4_01 (n : Nat) (X : Int) : ∀ x ∈ (unp4 n X).L, 0 ≤ x ∧ x ≤ 65536 := by
  obtain ⟨a, b, c, d, h⟩ := unp_four n X
  have h2 := unp_01 n X
  unfold unp4
  rw [h] at h2 ⊢
  exact h2
/-- A cell's numbers lie where they may. -/
structure Ce.Ok (c : Ce) : Prop where
  v : ∀ x ∈ c.v.L, 0 ≤ x ∧ x ≤ 65536
  d : 0 ≤ c.dep ∧ c.dep ≤ 65536
  s : 0 ≤ c.sten ∧ c.sten ≤ 255
theorem cellV_ok {P : Pl} (h : P.Ok) {i : Nat} (hi : i < P.W * P.H) : (cellV P i).Ok := by
  refine ⟨unp4_01 _ _, ?_, ?_⟩
  · show 0 ≤ (if P.dep then numV (P.dz.getD i 0) 16 else 65536) ∧ (if P.dep then numV (P.dz.getD i 0) 16 else 65536) ≤ 65536
    split
    · have hl : i < P.dz.length := by rw [h.dz]; exact hi
      have hz := u16_of_wf (h.dzw (P.dz.getD i 0) (by rw [List.getD_eq_getElem?_getD, List.getElem?_eq_getElem hl]; exact List.getElem_mem hl))
      exact num_bd _ 16 hz.1 (by omega) (by decide) (by decide)
    · omega
  · show 0 ≤ (if P.sten then P.ms.getD i 0 else 0) ∧ (if P.sten then P.ms.getD i 0 else 0) ≤ 255
    split
    · have hl : i < P.ms.length := by rw [h.ms]; exact hi
      have hz := u8_of_wf (h.msw (P.ms.getD i 0) (by rw [List.getD_eq_getElem?_getD, List.getElem?_eq_getElem hl]; exact List.getElem_mem hl))
      omega
    · omega
theorem Ce.Ok.In {c : Ce} (h : c.Ok) : c.In := ⟨fun x hx => by have := h.v x hx; omega, by have := h.d; omega, by have := h.d; omega⟩
theorem cellV_in {P : Pl} (h : P.Ok) {i : Nat} (hi : i < P.W * P.H) : (cellV P i).In ∧ 0 ≤ (cellV P i).sten ∧ (cellV P i).sten < 256 := by
  have ho := cellV_ok h hi
  have := ho.s
  exact ⟨ho.In, by omega, by omega⟩
theorem callR {P : Program} {f : FuncId} {args : Array Value} {w : World} {R : Ending → World → Prop} {l n : Nat} (h : Calls P f args w R) : CallsIn (Fence.wide.inRound l) n P f args w R := CallsIn.inRound l ((callsIn_wide (n := n)).2 h)
theorem PlAt.turn {m : Nat} {w w' : World} {B : Pb} {P : Pl} (h : PlAt w B P) (t : Turn m w w') : PlAt w' B P := ⟨h.ok, h.pn, t.cells h.p, t.cells h.c, t.cells h.d, t.cells h.m, h.k⟩
/-- Planes, k cells cleared. -/
def plk (s : St) (what : Nat) (color : V4) (dep sten : Int) (P : Pl) (X : Bx) (k : Nat) : Pl := ((boxB X P.W P.H).take k).foldl (clrS s what color dep sten) P
theorem fold_dim (s : St) (what : Nat) (color : V4) (dep sten : Int) (L : List (Nat × Nat)) : ∀ P : Pl, (L.foldl (clrS s what color dep sten) P).W = P.W ∧ (L.foldl (clrS s what color dep sten) P).H = P.H ∧ (L.foldl (clrS s what color dep sten) P).F = P.F ∧ (L.foldl (clrS s what color dep sten) P).dep = P.dep ∧ (L.foldl (clrS s what color dep sten) P).sten = P.sten := by
  induction L with
  | nil => intro P; exact ⟨rfl, rfl, rfl, rfl, rfl⟩
  | cons q L ih => intro P; exact ih _
theorem plk_succ {s : St} {what : Nat} {color : V4} {dep sten : Int} {P : Pl} {X : Bx} {k : Nat} {q : Nat × Nat} (h : (boxB X P.W P.H)[k]? = some q) : plk s what color dep sten P X (k + 1) = clrS s what color dep sten (plk s what color dep sten P X k) q := by
  unfold plk
  rw [List.take_add_one, h, List.foldl_append]
  rfl
theorem plk_all (s : St) (what : Nat) (color : V4) (dep sten : Int) (P : Pl) : plk s what color dep sten P (clrX s P) (boxB (clrX s P) P.W P.H).length = clrV s what color dep sten P := by
  unfold plk clrV
  rw [List.take_of_length_le (Nat.le_refl _)]
theorem box_mem {b : Bx} {W H : Nat} {q : Nat × Nat} (h : q ∈ boxB b W H) : q.1 < W ∧ q.2 < H ∧ inX b q.1 q.2 = true := by
  unfold boxB at h
  obtain ⟨y, hy, h⟩ := List.mem_flatMap.1 h
  unfold boxR at h
  obtain ⟨x, hx, rfl⟩ := List.mem_map.1 h
  obtain ⟨h1, h2⟩ := List.mem_filter.1 hx
  exact ⟨List.mem_range.1 h1, List.mem_range.1 hy, h2⟩
section
attribute [local go_sem ↓] Ld_V4 St_V4 Ld_Ce St_Ce Ld_St Ld_Pc St_Pc Ld_Sd
attribute [local go_sem] Oper.semAt_some
set_option maxHeartbeats 8000000 in
theorem clear_any (B : Pb) (P : Pl) (s : St) (what : Nat) (dep sten : Int) (color : V4) (hs : stOk s = true) (hw : what ≤ 7) (w : World) (hp : PlAt w B P) : Calls Try.prog 14 #[.pointer (some ⟨B.p, 0, none⟩), .agg s.C.toArray, .int .i64 what, .agg color.C.toArray, .int .i32 dep, .int .i64 sten] w fun e w' => e = .returned (.int .i64 0) ∧ PlAt w' B (clrV s what color dep sten P) ∧ Chg [B.c, B.d, B.m] w w' := by
  have HCK := Lib.hid (check_any s)
  rw [hs] at HCK
  have HP := Lib.hid hp
  have hz := zero_piece
  have i1 : ¬ (what : Int) < 0 := by omega
  have i2 : ¬ (7 : Int) < (what : Int) := by omega
  have HBL : Hid (w.heap.size = w.heap.size ∧ B.p < w.heap.size ∧ B.c < w.heap.size ∧ B.d < w.heap.size ∧ B.m < w.heap.size) := Lib.hid ⟨rfl, heap_lt hp.p, heap_lt hp.c, heap_lt hp.d, heap_lt hp.m⟩
  clear hs hp
  refine calls_of_marks Try.func14 rfl ?_
  simp only [Try.ntmps14, List.size_toArray, List.length_cons, List.length_nil, Nat.reduceAdd, Nat.reduceSub, Array.replicate_succ, Array.replicate_zero, List.push_toArray, List.append_toArray, List.nil_append, List.cons_append]
  go_upto_region 1 with fail
  obtain ⟨w6, e6, h1, h2, h3, h4, h5, h6, hx6⟩ := heap6x w (.cells #[.pointer (some ⟨B.p, 0, none⟩)] 29) (.cells s.C.toArray 42) (.cells #[.int .i64 what] 3) (.cells color.C.toArray 26) (.cells #[.int .i32 dep] 24) (.cells #[.int .i64 sten] 3)
  rw [e6]
  obtain ⟨n, hn⟩ : ∃ n, w.heap.size = n := ⟨_, rfl⟩
  rw [hn] at h1 h2 h3 h4 h5 h6
  rw [hn]
  have HN := Lib.hid hn
  have HC6 : Hid (ClAt w6 n B.p s what color dep sten) := Lib.hid ⟨h1, h2, h3, h4, h5, h6⟩
  have c0 : w6.cell? ⟨n, 0, none⟩ = some (.pointer (some ⟨B.p, 0, none⟩)) := cell_of_heap h1 rfl
  have n0 := heap_lt h1
  have ls := StAt.load h2
  have HX6 := Lib.hid hx6
  clear h1 h2 h3 h4 h5 h6 hx6 e6 hn
  go_upto_region 6 with (go_at_call 58; refine (HCK.out _).mono ?_; rintro _ w7 ⟨rfl, hx7⟩)
  have HC7 := Lib.hid (HC6.out.ext hx7)
  have HX7 := Lib.hid (HX6.out.trans hx7)
  have c0 : w7.cell? ⟨n, 0, none⟩ = some (.pointer (some ⟨B.p, 0, none⟩)) := cell_of_heap HC7.out.a rfl
  have c2 : w7.cell? ⟨n + 1 + 1, 0, none⟩ = some (.int .i64 what) := cell_of_heap HC7.out.c rfl
  have n7 := heap_lt HC7.out.f
  have n71 : n < w7.heap.size := by omega
  have n72 : n + 1 < w7.heap.size := by omega
  have n73 : n + 1 + 1 < w7.heap.size := by omega
  have hp7 := HP.out.ext HX7.out
  have q0 : w7.cell? ⟨B.p, 0, none⟩ = some (.int .i64 P.W) := cell_of_heap hp7.p rfl
  have q1 : w7.cell? ⟨B.p, 1, none⟩ = some (.int .i64 P.H) := cell_of_heap hp7.p rfl
  have np := heap_lt hp7.p
  clear hx7 hp7 ls HC6 HX6 n0
  go_upto_region 8 with fail
  obtain ⟨w8, hst8, h8, hx8⟩ := newBxD w7 ⟨0, 0, P.W, P.H⟩
  have hst8 : (@Classical.epsilon _ neU (StP 35 (.pointer (some ⟨w7.heap.size, 0, none⟩)) (.agg #[.int .i64 0, .int .i64 0, .int .i64 P.W, .int .i64 P.H]))).run Try.prog (w7.alloc (.cells #[.int .i64 0, .int .i64 0, .int .i64 0, .int .i64 0] 35)).drew = .ok () w8 := hst8
  have d0 := hx8.cell c0
  have d1 := hx8.cell q0
  have d2 := hx8.cell q1
  clear c2 n73
  go_region_held3 (fun w' => w'.cell? ⟨n, 0, none⟩ = some (.pointer (some ⟨B.p, 0, none⟩)) ∧ w'.cell? ⟨B.p, 0, none⟩ = some (.int .i64 P.W) ∧ w'.cell? ⟨B.p, 1, none⟩ = some (.int .i64 P.H)) (go_keep) (fail)
  have HC8 := Lib.hid (HC7.out.ext hx8)
  have HX8 := Lib.hid (HX7.out.trans hx8)
  have H8 := Lib.hid h8
  have HB8 : Hid (w.heap.size ≤ w7.heap.size) := Lib.hid HX7.out.size
  have HBX : Hid (n + 1 + 1 + 1 + 1 + 1 < w7.heap.size) := Lib.hid (heap_lt HC7.out.f)
  obtain ⟨bx, hbx⟩ : ∃ bx, w7.heap.size = bx := ⟨_, rfl⟩
  rw [hbx] at H8 HB8 HBX
  rw [hbx]
  have s0 : w8.cell? ⟨n + 1, 0, none⟩ = some (.bool s.sc) := cell_of_heap HC8.out.b rfl
  have n8 := heap_lt HC8.out.b
  obtain ⟨X, hX⟩ : ∃ X, clrX s P = X := ⟨_, rfl⟩
  have HX := Lib.hid hX
  have hXd := hX
  unfold clrX at hXd
  clear d0 d1 d2 hst8 h8 hx8 c0 q0 q1 np n7 n71 n72 HC7 HX7 hbx hX i1 i2 HCK hz
  go_upto_if 47 with fail
  go_cut [] from 22 to 122 (fun wc => Hid (BxAt wc bx X ∧ ClAt wc n B.p s what color dep sten ∧ Ext w wc))
  case first =>
    cases hsc : s.sc
    · rw [hsc] at s0 hXd
      simp only [Bool.false_eq_true, if_false] at hXd
      subst hXd
      go_wp2_with fail
      go_meet
      exact ⟨H8.out, HC8.out, HX8.out⟩
    · rw [hsc] at s0 hXd
      simp only [if_true] at hXd
      have lb := HC8.out.b.loadBx
      obtain ⟨t1, t2, t3⟩ := H8.out.store ⟨s.x, s.y, s.w, s.h⟩
      have HT2 := Lib.hid t2
      have HT3 := Lib.hid t3
      rw [hXd] at lb t1 HT2 HT3
      have nb8 := heap_lt H8.out
      clear t2 t3 hXd
      go_wp2_with fail
      go_meet
      exact ⟨HT2.out, ⟨HT3.out.heap HC8.out.a (by simp; have := HBX.out; omega), HT3.out.heap HC8.out.b (by simp; have := HBX.out; omega), HT3.out.heap HC8.out.c (by simp; have := HBX.out; omega), HT3.out.heap HC8.out.d (by simp; have := HBX.out; omega), HT3.out.heap HC8.out.e (by simp; have := HBX.out; omega), HT3.out.heap HC8.out.f (by simp; have := HBX.out; omega)⟩, HX8.out.chgTrans HT3.out (by simp; exact HB8.out)⟩
  case rest =>
    obtain ⟨hbx, hcl, hxc⟩ := hcut.out
    clear hXd
    go_upto_region 12 with fail
    obtain ⟨w9, hw9, hf9, hx9⟩ : ∃ w9, wc.alloc (.cells #[.func (.func 59) #[] #[]] 123) = w9 ∧ w9.heap[wc.heap.size]? = some (.cells #[.func (.func 59) #[] #[]] 123 (0, 0)) ∧ Ext wc w9 := ⟨_, rfl, heap_alloc_new _ _, (Ext.refl _).alloc _⟩
    rw [hw9]
    have HBX9 := Lib.hid (hbx.heap_ext hx9)
    have HC9 := Lib.hid (hcl.ext hx9)
    have HX9 := Lib.hid (hxc.trans hx9)
    have HF9 := Lib.hid hf9
    have HBF : Hid (w.heap.size ≤ wc.heap.size ∧ n + 1 + 1 + 1 + 1 + 1 < wc.heap.size) := Lib.hid ⟨hxc.size, heap_lt hcl.f⟩
    obtain ⟨bf, hbf⟩ : ∃ bf, wc.heap.size = bf := ⟨_, rfl⟩
    rw [hbf] at HF9 HBF
    rw [hbf]
    have HP9 := Lib.hid (HP.out.ext HX9.out)
    have c0 : w9.cell? ⟨n, 0, none⟩ = some (.pointer (some ⟨B.p, 0, none⟩)) := cell_of_heap HC9.out.a rfl
    have l1 := HP9.out.loadSd
    have l2 := BxAt.load HBX9.out
    have l1d := (HP9.out.ext (Ext.refl _).drew).loadSd
    have l2d := BxAt.load (HBX9.out.heap_ext (Ext.refl _).drew)
    have n9 := heap_lt HC9.out.a
    have np9 := heap_lt HP9.out.p
    have nb9 := heap_lt HBX9.out
    clear hbx hcl hxc hcut hw9 hf9 hx9 hbf H8 HC8 HX8
    go_region_held3 (fun w' => w'.cell? ⟨n, 0, none⟩ = some (.pointer (some ⟨B.p, 0, none⟩)) ∧ (@Classical.epsilon _ neV (LdP 117 (.pointer (some ⟨B.p, 0, none⟩)))).run Try.prog w' = .ok (.agg #[.int .i64 P.W, .int .i64 P.H]) w' ∧ (@Classical.epsilon _ neV (LdP 35 (.pointer (some ⟨bx, 0, none⟩)))).run Try.prog w' = .ok (.agg X.C) w') (go_keep) ((go_at_call 60; refine (cells_any P.W P.H X _).mono ?_; rintro _ w12 ⟨s2, s3, rfl, hs2, hs3, h2, h3, hx12⟩; have g1 := hx12.cell c0; have g2 := (HP9.out.ext ((Ext.refl _).drew.trans hx12)).loadSd; have g3 := BxAt.load ((HBX9.out.heap_ext (Ext.refl _).drew).heap_ext hx12)))
    have HX12 := Lib.hid (HX9.out.trans ((Ext.refl _).drew.trans hx12))
    have HP12 := Lib.hid (HP.out.ext HX12.out)
    have HC12 := Lib.hid (HC9.out.ext ((Ext.refl _).drew.trans hx12))
    have HF12 := Lib.hid (((Ext.refl _).drew.trans hx12).heap HF9.out)
    have H2 := Lib.hid h2
    have H3 := Lib.hid h3
    have HS23 : Hid (w.heap.size ≤ s2 ∧ w.heap.size ≤ s3) := Lib.hid (by have h9 := HX9.out.size; have e9 : w9.drew.heap.size = w9.heap.size := rfl; omega)
    have n2 := heap_lt h2
    have n3 := heap_lt h3
    clear h2 h3 hx12 hs2 hs3 HX9 HP9 HC9 HBX9 c0 l1 l2 l1d l2d g1 g2 g3 n9 np9 nb9 HF9
    go_wp2_with fail
    refine range_lawT rfl (enters_of Try.func89 (by kernel_rfl) rfl) (cells_tells s2 s3 P.W P.H X w12 H2.out H3.out HP.out.ok.w2 HP.out.ok.h2) (Below.refl _ _)
      (fun k hk => by rcases hk with rfl | rfl <;> assumption) (fun k args W h => by obtain ⟨q, _, h⟩ := h; rw [h]; rfl) (fun k args A B h _ => h)
      (fun k W => PlAt W B (plk s what color dep sten P X k) ∧ Chg [B.c, B.d, B.m] w12 W) (fun _ _ => False)
      (fun k A B h t => ⟨h.1.turn t, h.2.turn t (Nat.le_refl _)⟩) (fun _ _ _ h _ => h) ⟨HP12.out, Chg.refl _ _⟩
      (fun t k args a' W => a' = { tmps := (((t.setIfInBounds 56 (args.getD 0 undef)).setIfInBounds 57 (args.getD 1 undef)).setIfInBounds 16 (args.getD 0 undef)).setIfInBounds 17 (args.getD 1 undef), defers := [] }) (fun t k args a' A B h x => h) ?assign ?body ?done ?stop
    case assign =>
      rintro lp k args W K hk ⟨hpl, hch⟩ ⟨q, hq, hg⟩ hK
      subst hg
      gi_wp2
      exact hK _ _ (Ext.refl _) rfl
    case stop => rintro D c W _ h; exact h.elim
    case body =>
      rintro lp k args a' W hk hsz ⟨hpl, hch⟩ ⟨q, hq, hg⟩ ha
      subst hg
      subst ha
      obtain ⟨x, y⟩ := q
      obtain ⟨hxW, hyH, _⟩ := box_mem (List.mem_of_getElem? hq)
      have HSU := Lib.hid (plk_succ (s := s) (what := what) (color := color) (dep := dep) (sten := sten) hq)
      obtain ⟨dW, dH, dF, dd, ds⟩ := fold_dim s what color dep sten ((boxB X P.W P.H).take k) P
      have dW : (plk s what color dep sten P X k).W = P.W := dW
      have dH : (plk s what color dep sten P X k).H = P.H := dH
      obtain ⟨Pk, hPk⟩ : ∃ Pk, plk s what color dep sten P X k = Pk := ⟨_, rfl⟩
      rw [hPk] at hpl HSU dW dH
      simp only at hxW hyH
      rw [← dW] at hxW
      rw [← dH] at hyH
      have hcl : ClAt W n B.p s what color dep sten := HC12.out.chg hch (by have := HBL.out; have := HN.out; simp; omega)
      have hf : W.heap[bf]? = some (.cells #[.func (.func 59) #[] #[]] 123 (0, 0)) := hch.heap HF12.out (by have := HBL.out; have := HBF.out; have := HN.out; simp; omega)
      have HPL := Lib.hid hpl
      have HCL := Lib.hid hcl
      have HF := Lib.hid hf
      have HCH := Lib.hid hch
      have c0 : W.cell? ⟨n, 0, none⟩ = some (.pointer (some ⟨B.p, 0, none⟩)) := cell_of_heap hcl.a rfl
      have nW := heap_lt hcl.a
      have npW := heap_lt hpl.p
      have l1 := hpl.loadSd
      have HAT := Lib.hid (at_in Pk.W Pk.H x y hxW hyH hpl.ok.w2 hpl.ok.h2)
      have hi : y * Pk.W + x < Pk.W * Pk.H := by
        have := Nat.mul_le_mul_right Pk.W (show y + 1 ≤ Pk.H by omega)
        rw [Nat.succ_mul, Nat.mul_comm Pk.H] at this
        omega
      obtain ⟨i, hi0⟩ : ∃ i, y * Pk.W + x = i := ⟨_, rfl⟩
      rw [hi0] at HAT hi
      have HSU2 : Hid (plk s what color dep sten P X (k + 1) = layV Pk i (clrC s what color dep sten (cellV Pk i))) := Lib.hid (by rw [HSU.out, ← hi0]; rfl)
      have HCE := Lib.hid (fun (w' : World) (h : PlAt w' B Pk) => cell_any B Pk i hi w' h)
      have HLA := Lib.hid (fun (w' : World) (h : PlAt w' B Pk) (c : Ce) (hc : c.In) => lay_any B Pk i c hi hc w' h)
      clear hch hcl hf hpl hq hk hPk hi0 HSU H2 H3 HP12 HC12 HF12 dW dH dF dd ds hxW hyH
      gi_wp2_with (first
        | (refine ⟨trivial, callR ((HAT.out _).mono ?_)⟩; rintro _ w13 ⟨rfl, hx13⟩; have c0 := hx13.cell c0)
        | (refine ⟨trivial, callR ((HCE.out _ (HPL.out.ext hx13)).mono ?_)⟩; rintro _ w14 ⟨rfl, hx14⟩; obtain ⟨w15, hst15, h15, hx15⟩ := newC w14 (cellV Pk i)))
      obtain ⟨bc, hbc⟩ : ∃ bc, w14.heap.size = bc := ⟨_, rfl⟩
      have HX15 := Lib.hid ((hx13.trans hx14).trans hx15)
      have H15 := Lib.hid h15
      have HBC : Hid (bc < w15.heap.size ∧ W.heap.size ≤ bc) := Lib.hid (by have := heap_lt h15; have := (hx13.trans hx14).size; omega)
      rw [hbc] at H15
      rw [hbc]
      obtain ⟨ce, hce⟩ : ∃ ce, cellV Pk i = ce := ⟨_, rfl⟩
      rw [hce] at H15 HSU2
      rw [hce]
      have HCEI : Hid (ce.In ∧ 0 ≤ ce.sten ∧ ce.sten < 256) := Lib.hid (by rw [← hce]; exact cellV_in HPL.out.ok hi)
      clear hx13 hx14 hx15 h15 hst15 hbc hce HCE HAT c0 l1 npW
      obtain ⟨kb, hkb⟩ : ∃ kb, bits BinOp.and IntKind.i64 (what : Int) 1 = kb := ⟨_, rfl⟩
      have HKB := Lib.hid hkb
      gi_loopw [71, 21] (fun i t wr => ∃ m : Nat, m ≤ 4 ∧ i = .int .i64 m ∧ Hid (CAt wr bc (if what % 2 = 1 then pkS s color.cl ce m else ce) ∧ Chg [bc] w15 wr)) (fun i _ _ => 4 - (intOf i).toNat)
      case atStart => exact ⟨0, Nat.zero_le _, rfl, Lib.hid ⟨by split <;> exact H15.out, Chg.refl _ _⟩⟩
      case round =>
        rename World => wr
        obtain ⟨m, hm4, rfl, HR⟩ := hrel
        obtain ⟨hca, hcb⟩ := HR.out
        have hcl : ClAt wr n B.p s what color dep sten := ⟨hcb.heap (HX15.out.heap HCL.out.a) (by have := HBC.out; have := heap_lt HCL.out.f; simp; omega), hcb.heap (HX15.out.heap HCL.out.b) (by have := HBC.out; have := heap_lt HCL.out.f; simp; omega), hcb.heap (HX15.out.heap HCL.out.c) (by have := HBC.out; have := heap_lt HCL.out.f; simp; omega), hcb.heap (HX15.out.heap HCL.out.d) (by have := HBC.out; have := heap_lt HCL.out.f; simp; omega), hcb.heap (HX15.out.heap HCL.out.e) (by have := HBC.out; have := heap_lt HCL.out.f; simp; omega), hcb.heap (HX15.out.heap HCL.out.f) (by have := HBC.out; have := heap_lt HCL.out.f; simp; omega)⟩
        have hff := hcb.heap (HX15.out.heap HF.out) (by have := HBC.out; have := heap_lt HF.out; simp; omega)
        have cw : wr.cell? ⟨n + 1 + 1, 0, none⟩ = some (.int .i64 what) := cell_of_heap hcl.c rfl
        have nw := heap_lt hcl.c
        by_cases hlt : m < 4
        · have hmi : (m : Int) < 4 := by omega
          by_cases hon : what % 2 = 1
          · rw [if_pos hon] at hca
            have hk1 : kb = 1 := by rw [← hkb]; exact and1_on hon
            subst hk1
            simp only [if_pos hon]
            have h4 : m = 0 ∨ m = 1 ∨ m = 2 ∨ m = 3 := by omega
            rcases h4 with h4 | h4 | h4 | h4
            · obtain rfl : m = 0 := by omega
              have hm : wr.cell? ⟨n + 1, 34, none⟩ = some (.bool s.m0) := cell_of_heap hcl.b rfl
              have hcol : wr.cell? ⟨n + 1 + 1 + 1, 0, none⟩ = some (.int .i32 color.a) := cell_of_heap hcl.d rfl
              have hst : wr.cell? ⟨bc, 0, none⟩ = some (.int .i32 (pkS s color.cl ce 0).v.a) := cell_of_heap hca rfl
              have hfz : wr.frozen? ⟨bc, 0, none⟩ = false := free_of_heap hca
              have hfn : wr.cell? ⟨bf, 0, none⟩ = some (.func (.func 59) #[] #[]) := cell_of_heap hff rfl
              have nca := heap_lt hca
              have ncl := heap_lt hcl.d
              have ncf := heap_lt hff
              have HCB := Lib.hid hcb
              have HCA := Lib.hid hca
              have HCR := Lib.hid (fun w => clampc_any color.a w)
              obtain ⟨D, hD⟩ : ∃ D, clV color.a = D := ⟨_, rfl⟩
              rw [hD] at HCR
              have HD := Lib.hid hD
              have h9 := CAt.set0 hca D
              have H9 := Lib.hid h9
              have HC9 : Hid (Chg [bc] w15 (wr.setCell ⟨bc, 0, none⟩ (.int .i32 D))) := Lib.hid (hcb.setCell (p := ⟨bc, 0, none⟩) (by simp) _)
              clear hff hcl hca hcb h9 hD
              cases hmm : s.m0
              · rw [hmm] at hm
                gi_wp2
                go_roundw
                case rel => exact ⟨1, by omega, rfl, Lib.hid ⟨by have h5 := HCA.out; simp only [pkS, pickV, hmm] at h5 ⊢; exact h5, HCB.out⟩⟩
                case measure => simp [intOf]
              · rw [hmm] at hm
                gi_wp2
                refine wp_via [(83, .int .i64 0), (85, .int .i64 0), (89, .pointer (some ⟨bc, 0, none⟩)), (86, .pointer (some ⟨n + 1 + 1 + 1, 0, none⟩)), (84, .func (.func 59) #[] #[]), (87, .int .i32 color.a), (88, .int .i32 D), (90, .pointer (some ⟨bc, 0, none⟩))] (wr.drew.setCell ⟨bc, 0, none⟩ (.int .i32 D)) ?h1 ?h2
                case h1 =>
                  refine region_round (by kernel_rfl) (by kernel_rfl) ?_
                  refine wpAnyIn_take (i := 0) (v := ?_) rfl rfl (by kernel_rfl) (by kernel_rfl) (by kernel_rfl) via_panic ⟨Or.inl ⟨by rfl, ?_⟩, fun _ => rfl⟩ ?_
                  rotate_left
                  · intro w
                    go_simp
                    with_reducible rfl
                  refine wpAnyIn_take (i := 2) (v := ?_) rfl rfl (by kernel_rfl) (by kernel_rfl) (by kernel_rfl) via_panic ⟨Or.inl ⟨by rfl, ?_⟩, fun _ => rfl⟩ ?_
                  rotate_left
                  · intro w
                    go_simp
                    with_reducible rfl
                  refine wpAnyIn_take (i := 6) (v := ?_) rfl rfl (by kernel_rfl) (by kernel_rfl) (by kernel_rfl) via_panic ⟨Or.inl ⟨by rfl, ?_⟩, fun _ => rfl⟩ ?_
                  rotate_left
                  · intro w
                    go_simp
                    with_reducible rfl
                  refine wpAnyIn_take (i := 3) (v := ?_) rfl rfl (by kernel_rfl) (by kernel_rfl) (by kernel_rfl) via_panic ⟨Or.inl ⟨by rfl, ?_⟩, fun _ => rfl⟩ ?_
                  rotate_left
                  · intro w
                    go_simp
                    with_reducible rfl
                  refine wpAnyIn_ready (rs := [1, 4]) (by kernel_rfl) (by simp) (AllReadyIn.cons rfl (fun K hK => ?_) (AllReadyIn.cons rfl (fun K hK => ?_) AllReadyIn.nil))
                  · go_simp
                    refine hK _ _ ?_
                    clear hK K
                    refine wpAnyIn_ready (rs := [4]) (by kernel_rfl) (by simp) (AllReadyIn.cons rfl (fun K hK => ?_) AllReadyIn.nil)
                    go_simp
                    refine hK _ _ ?_
                    clear hK K
                    refine wpAnyIn_ready (rs := [5]) (by kernel_rfl) (by simp) (AllReadyIn.cons rfl (fun K hK => ?_) AllReadyIn.nil)
                    go_simp
                    refine ⟨trivial, (callsIn_wide (n := 6)).2 ((HCR.out _).mono ?_)⟩
                    rintro _ _ ⟨rfl, rfl⟩
                    refine hK _ _ ?_
                    clear hK K
                    refine wpAnyIn_ready (rs := [7]) (by kernel_rfl) (by simp) (AllReadyIn.cons rfl (fun K hK => ?_) AllReadyIn.nil)
                    go_simp
                    refine hK _ _ ?_
                    clear hK K
                    refine wpAnyIn_ready (rs := [8]) (by kernel_rfl) (by simp) (AllReadyIn.cons rfl (fun K hK => ?_) AllReadyIn.nil)
                    go_simp
                    refine hK _ _ ?_
                    clear hK K
                    refine wpAnyIn_done (by kernel_rfl) ⟨rfl, ?_, rfl⟩ _
                    simp only [putAll, List.foldl_cons, List.foldl_nil]
                    go_simp
                  · go_simp
                    refine hK _ _ ?_
                    clear hK K
                    refine wpAnyIn_ready (rs := [1]) (by kernel_rfl) (by simp) (AllReadyIn.cons rfl (fun K hK => ?_) AllReadyIn.nil)
                    go_simp
                    refine hK _ _ ?_
                    clear hK K
                    refine wpAnyIn_ready (rs := [5]) (by kernel_rfl) (by simp) (AllReadyIn.cons rfl (fun K hK => ?_) AllReadyIn.nil)
                    go_simp
                    refine ⟨trivial, (callsIn_wide (n := 6)).2 ((HCR.out _).mono ?_)⟩
                    rintro _ _ ⟨rfl, rfl⟩
                    refine hK _ _ ?_
                    clear hK K
                    refine wpAnyIn_ready (rs := [7]) (by kernel_rfl) (by simp) (AllReadyIn.cons rfl (fun K hK => ?_) AllReadyIn.nil)
                    go_simp
                    refine hK _ _ ?_
                    clear hK K
                    refine wpAnyIn_ready (rs := [8]) (by kernel_rfl) (by simp) (AllReadyIn.cons rfl (fun K hK => ?_) AllReadyIn.nil)
                    go_simp
                    refine hK _ _ ?_
                    clear hK K
                    refine wpAnyIn_done (by kernel_rfl) ⟨rfl, ?_, rfl⟩ _
                    simp only [putAll, List.foldl_cons, List.foldl_nil]
                    go_simp
                case h2 =>
                  simp only [putAll, List.foldl_cons, List.foldl_nil]
                  gi_wp2
                  go_roundw
                  case rel => exact ⟨1, by omega, rfl, Lib.hid ⟨by show CAt (wr.setCell ⟨bc, 0, none⟩ (.int .i32 D)) bc _; have h5 := H9.out; rw [← HD.out] at h5 ⊢; simp only [pkS, pickV, hmm, if_true] at h5 ⊢; exact h5, HC9.out.ext2 (Ext.refl _).drew⟩⟩
                  case measure => simp [intOf]
            · obtain rfl : m = 1 := by omega
              have hm : wr.cell? ⟨n + 1, 35, none⟩ = some (.bool s.m1) := cell_of_heap hcl.b rfl
              have hcol : wr.cell? ⟨n + 1 + 1 + 1, 1, none⟩ = some (.int .i32 color.b) := cell_of_heap hcl.d rfl
              have hst : wr.cell? ⟨bc, 1, none⟩ = some (.int .i32 (pkS s color.cl ce 1).v.b) := cell_of_heap hca rfl
              have hfz : wr.frozen? ⟨bc, 1, none⟩ = false := free_of_heap hca
              have hfn : wr.cell? ⟨bf, 0, none⟩ = some (.func (.func 59) #[] #[]) := cell_of_heap hff rfl
              have nca := heap_lt hca
              have ncl := heap_lt hcl.d
              have ncf := heap_lt hff
              have HCB := Lib.hid hcb
              have HCA := Lib.hid hca
              have HCR := Lib.hid (fun w => clampc_any color.b w)
              obtain ⟨D, hD⟩ : ∃ D, clV color.b = D := ⟨_, rfl⟩
              rw [hD] at HCR
              have HD := Lib.hid hD
              have h9 := CAt.set1 hca D
              have H9 := Lib.hid h9
              have HC9 : Hid (Chg [bc] w15 (wr.setCell ⟨bc, 1, none⟩ (.int .i32 D))) := Lib.hid (hcb.setCell (p := ⟨bc, 1, none⟩) (by simp) _)
              clear hff hcl hca hcb h9 hD
              cases hmm : s.m1
              · rw [hmm] at hm
                gi_wp2
                go_roundw
                case rel => exact ⟨2, by omega, rfl, Lib.hid ⟨by have h5 := HCA.out; simp only [pkS, pickV, hmm] at h5 ⊢; exact h5, HCB.out⟩⟩
                case measure => simp [intOf]
              · rw [hmm] at hm
                gi_wp2
                refine wp_via [(83, .int .i64 1), (85, .int .i64 1), (89, .pointer (some ⟨bc, 0, none⟩)), (86, .pointer (some ⟨n + 1 + 1 + 1, 1, none⟩)), (84, .func (.func 59) #[] #[]), (87, .int .i32 color.b), (88, .int .i32 D), (90, .pointer (some ⟨bc, 1, none⟩))] (wr.drew.setCell ⟨bc, 1, none⟩ (.int .i32 D)) ?h1 ?h2
                case h1 =>
                  refine region_round (by kernel_rfl) (by kernel_rfl) ?_
                  refine wpAnyIn_take (i := 0) (v := ?_) rfl rfl (by kernel_rfl) (by kernel_rfl) (by kernel_rfl) via_panic ⟨Or.inl ⟨by rfl, ?_⟩, fun _ => rfl⟩ ?_
                  rotate_left
                  · intro w
                    go_simp
                    with_reducible rfl
                  refine wpAnyIn_take (i := 2) (v := ?_) rfl rfl (by kernel_rfl) (by kernel_rfl) (by kernel_rfl) via_panic ⟨Or.inl ⟨by rfl, ?_⟩, fun _ => rfl⟩ ?_
                  rotate_left
                  · intro w
                    go_simp
                    with_reducible rfl
                  refine wpAnyIn_take (i := 6) (v := ?_) rfl rfl (by kernel_rfl) (by kernel_rfl) (by kernel_rfl) via_panic ⟨Or.inl ⟨by rfl, ?_⟩, fun _ => rfl⟩ ?_
                  rotate_left
                  · intro w
                    go_simp
                    with_reducible rfl
                  refine wpAnyIn_take (i := 3) (v := ?_) rfl rfl (by kernel_rfl) (by kernel_rfl) (by kernel_rfl) via_panic ⟨Or.inl ⟨by rfl, ?_⟩, fun _ => rfl⟩ ?_
                  rotate_left
                  · intro w
                    go_simp
                    with_reducible rfl
                  refine wpAnyIn_ready (rs := [1, 4]) (by kernel_rfl) (by simp) (AllReadyIn.cons rfl (fun K hK => ?_) (AllReadyIn.cons rfl (fun K hK => ?_) AllReadyIn.nil))
                  · go_simp
                    refine hK _ _ ?_
                    clear hK K
                    refine wpAnyIn_ready (rs := [4]) (by kernel_rfl) (by simp) (AllReadyIn.cons rfl (fun K hK => ?_) AllReadyIn.nil)
                    go_simp
                    refine hK _ _ ?_
                    clear hK K
                    refine wpAnyIn_ready (rs := [5]) (by kernel_rfl) (by simp) (AllReadyIn.cons rfl (fun K hK => ?_) AllReadyIn.nil)
                    go_simp
                    refine ⟨trivial, (callsIn_wide (n := 6)).2 ((HCR.out _).mono ?_)⟩
                    rintro _ _ ⟨rfl, rfl⟩
                    refine hK _ _ ?_
                    clear hK K
                    refine wpAnyIn_ready (rs := [7]) (by kernel_rfl) (by simp) (AllReadyIn.cons rfl (fun K hK => ?_) AllReadyIn.nil)
                    go_simp
                    refine hK _ _ ?_
                    clear hK K
                    refine wpAnyIn_ready (rs := [8]) (by kernel_rfl) (by simp) (AllReadyIn.cons rfl (fun K hK => ?_) AllReadyIn.nil)
                    go_simp
                    refine hK _ _ ?_
                    clear hK K
                    refine wpAnyIn_done (by kernel_rfl) ⟨rfl, ?_, rfl⟩ _
                    simp only [putAll, List.foldl_cons, List.foldl_nil]
                    go_simp
                  · go_simp
                    refine hK _ _ ?_
                    clear hK K
                    refine wpAnyIn_ready (rs := [1]) (by kernel_rfl) (by simp) (AllReadyIn.cons rfl (fun K hK => ?_) AllReadyIn.nil)
                    go_simp
                    refine hK _ _ ?_
                    clear hK K
                    refine wpAnyIn_ready (rs := [5]) (by kernel_rfl) (by simp) (AllReadyIn.cons rfl (fun K hK => ?_) AllReadyIn.nil)
                    go_simp
                    refine ⟨trivial, (callsIn_wide (n := 6)).2 ((HCR.out _).mono ?_)⟩
                    rintro _ _ ⟨rfl, rfl⟩
                    refine hK _ _ ?_
                    clear hK K
                    refine wpAnyIn_ready (rs := [7]) (by kernel_rfl) (by simp) (AllReadyIn.cons rfl (fun K hK => ?_) AllReadyIn.nil)
                    go_simp
                    refine hK _ _ ?_
                    clear hK K
                    refine wpAnyIn_ready (rs := [8]) (by kernel_rfl) (by simp) (AllReadyIn.cons rfl (fun K hK => ?_) AllReadyIn.nil)
                    go_simp
                    refine hK _ _ ?_
                    clear hK K
                    refine wpAnyIn_done (by kernel_rfl) ⟨rfl, ?_, rfl⟩ _
                    simp only [putAll, List.foldl_cons, List.foldl_nil]
                    go_simp
                case h2 =>
                  simp only [putAll, List.foldl_cons, List.foldl_nil]
                  gi_wp2
                  go_roundw
                  case rel => exact ⟨2, by omega, rfl, Lib.hid ⟨by show CAt (wr.setCell ⟨bc, 1, none⟩ (.int .i32 D)) bc _; have h5 := H9.out; rw [← HD.out] at h5 ⊢; simp only [pkS, pickV, hmm, if_true] at h5 ⊢; exact h5, HC9.out.ext2 (Ext.refl _).drew⟩⟩
                  case measure => simp [intOf]
            · obtain rfl : m = 2 := by omega
              have hm : wr.cell? ⟨n + 1, 36, none⟩ = some (.bool s.m2) := cell_of_heap hcl.b rfl
              have hcol : wr.cell? ⟨n + 1 + 1 + 1, 2, none⟩ = some (.int .i32 color.c) := cell_of_heap hcl.d rfl
              have hst : wr.cell? ⟨bc, 2, none⟩ = some (.int .i32 (pkS s color.cl ce 2).v.c) := cell_of_heap hca rfl
              have hfz : wr.frozen? ⟨bc, 2, none⟩ = false := free_of_heap hca
              have hfn : wr.cell? ⟨bf, 0, none⟩ = some (.func (.func 59) #[] #[]) := cell_of_heap hff rfl
              have nca := heap_lt hca
              have ncl := heap_lt hcl.d
              have ncf := heap_lt hff
              have HCB := Lib.hid hcb
              have HCA := Lib.hid hca
              have HCR := Lib.hid (fun w => clampc_any color.c w)
              obtain ⟨D, hD⟩ : ∃ D, clV color.c = D := ⟨_, rfl⟩
              rw [hD] at HCR
              have HD := Lib.hid hD
              have h9 := CAt.set2 hca D
              have H9 := Lib.hid h9
              have HC9 : Hid (Chg [bc] w15 (wr.setCell ⟨bc, 2, none⟩ (.int .i32 D))) := Lib.hid (hcb.setCell (p := ⟨bc, 2, none⟩) (by simp) _)
              clear hff hcl hca hcb h9 hD
              cases hmm : s.m2
              · rw [hmm] at hm
                gi_wp2
                go_roundw
                case rel => exact ⟨3, by omega, rfl, Lib.hid ⟨by have h5 := HCA.out; simp only [pkS, pickV, hmm] at h5 ⊢; exact h5, HCB.out⟩⟩
                case measure => simp [intOf]
              · rw [hmm] at hm
                gi_wp2
                refine wp_via [(83, .int .i64 2), (85, .int .i64 2), (89, .pointer (some ⟨bc, 0, none⟩)), (86, .pointer (some ⟨n + 1 + 1 + 1, 2, none⟩)), (84, .func (.func 59) #[] #[]), (87, .int .i32 color.c), (88, .int .i32 D), (90, .pointer (some ⟨bc, 2, none⟩))] (wr.drew.setCell ⟨bc, 2, none⟩ (.int .i32 D)) ?h1 ?h2
                case h1 =>
                  refine region_round (by kernel_rfl) (by kernel_rfl) ?_
                  refine wpAnyIn_take (i := 0) (v := ?_) rfl rfl (by kernel_rfl) (by kernel_rfl) (by kernel_rfl) via_panic ⟨Or.inl ⟨by rfl, ?_⟩, fun _ => rfl⟩ ?_
                  rotate_left
                  · intro w
                    go_simp
                    with_reducible rfl
                  refine wpAnyIn_take (i := 2) (v := ?_) rfl rfl (by kernel_rfl) (by kernel_rfl) (by kernel_rfl) via_panic ⟨Or.inl ⟨by rfl, ?_⟩, fun _ => rfl⟩ ?_
                  rotate_left
                  · intro w
                    go_simp
                    with_reducible rfl
                  refine wpAnyIn_take (i := 6) (v := ?_) rfl rfl (by kernel_rfl) (by kernel_rfl) (by kernel_rfl) via_panic ⟨Or.inl ⟨by rfl, ?_⟩, fun _ => rfl⟩ ?_
                  rotate_left
                  · intro w
                    go_simp
                    with_reducible rfl
                  refine wpAnyIn_take (i := 3) (v := ?_) rfl rfl (by kernel_rfl) (by kernel_rfl) (by kernel_rfl) via_panic ⟨Or.inl ⟨by rfl, ?_⟩, fun _ => rfl⟩ ?_
                  rotate_left
                  · intro w
                    go_simp
                    with_reducible rfl
                  refine wpAnyIn_ready (rs := [1, 4]) (by kernel_rfl) (by simp) (AllReadyIn.cons rfl (fun K hK => ?_) (AllReadyIn.cons rfl (fun K hK => ?_) AllReadyIn.nil))
                  · go_simp
                    refine hK _ _ ?_
                    clear hK K
                    refine wpAnyIn_ready (rs := [4]) (by kernel_rfl) (by simp) (AllReadyIn.cons rfl (fun K hK => ?_) AllReadyIn.nil)
                    go_simp
                    refine hK _ _ ?_
                    clear hK K
                    refine wpAnyIn_ready (rs := [5]) (by kernel_rfl) (by simp) (AllReadyIn.cons rfl (fun K hK => ?_) AllReadyIn.nil)
                    go_simp
                    refine ⟨trivial, (callsIn_wide (n := 6)).2 ((HCR.out _).mono ?_)⟩
                    rintro _ _ ⟨rfl, rfl⟩
                    refine hK _ _ ?_
                    clear hK K
                    refine wpAnyIn_ready (rs := [7]) (by kernel_rfl) (by simp) (AllReadyIn.cons rfl (fun K hK => ?_) AllReadyIn.nil)
                    go_simp
                    refine hK _ _ ?_
                    clear hK K
                    refine wpAnyIn_ready (rs := [8]) (by kernel_rfl) (by simp) (AllReadyIn.cons rfl (fun K hK => ?_) AllReadyIn.nil)
                    go_simp
                    refine hK _ _ ?_
                    clear hK K
                    refine wpAnyIn_done (by kernel_rfl) ⟨rfl, ?_, rfl⟩ _
                    simp only [putAll, List.foldl_cons, List.foldl_nil]
                    go_simp
                  · go_simp
                    refine hK _ _ ?_
                    clear hK K
                    refine wpAnyIn_ready (rs := [1]) (by kernel_rfl) (by simp) (AllReadyIn.cons rfl (fun K hK => ?_) AllReadyIn.nil)
                    go_simp
                    refine hK _ _ ?_
                    clear hK K
                    refine wpAnyIn_ready (rs := [5]) (by kernel_rfl) (by simp) (AllReadyIn.cons rfl (fun K hK => ?_) AllReadyIn.nil)
                    go_simp
                    refine ⟨trivial, (callsIn_wide (n := 6)).2 ((HCR.out _).mono ?_)⟩
                    rintro _ _ ⟨rfl, rfl⟩
                    refine hK _ _ ?_
                    clear hK K
                    refine wpAnyIn_ready (rs := [7]) (by kernel_rfl) (by simp) (AllReadyIn.cons rfl (fun K hK => ?_) AllReadyIn.nil)
                    go_simp
                    refine hK _ _ ?_
                    clear hK K
                    refine wpAnyIn_ready (rs := [8]) (by kernel_rfl) (by simp) (AllReadyIn.cons rfl (fun K hK => ?_) AllReadyIn.nil)
                    go_simp
                    refine hK _ _ ?_
                    clear hK K
                    refine wpAnyIn_done (by kernel_rfl) ⟨rfl, ?_, rfl⟩ _
                    simp only [putAll, List.foldl_cons, List.foldl_nil]
                    go_simp
                case h2 =>
                  simp only [putAll, List.foldl_cons, List.foldl_nil]
                  gi_wp2
                  go_roundw
                  case rel => exact ⟨3, by omega, rfl, Lib.hid ⟨by show CAt (wr.setCell ⟨bc, 2, none⟩ (.int .i32 D)) bc _; have h5 := H9.out; rw [← HD.out] at h5 ⊢; simp only [pkS, pickV, hmm, if_true] at h5 ⊢; exact h5, HC9.out.ext2 (Ext.refl _).drew⟩⟩
                  case measure => simp [intOf]
            · obtain rfl : m = 3 := by omega
              have hm : wr.cell? ⟨n + 1, 37, none⟩ = some (.bool s.m3) := cell_of_heap hcl.b rfl
              have hcol : wr.cell? ⟨n + 1 + 1 + 1, 3, none⟩ = some (.int .i32 color.d) := cell_of_heap hcl.d rfl
              have hst : wr.cell? ⟨bc, 3, none⟩ = some (.int .i32 (pkS s color.cl ce 3).v.d) := cell_of_heap hca rfl
              have hfz : wr.frozen? ⟨bc, 3, none⟩ = false := free_of_heap hca
              have hfn : wr.cell? ⟨bf, 0, none⟩ = some (.func (.func 59) #[] #[]) := cell_of_heap hff rfl
              have nca := heap_lt hca
              have ncl := heap_lt hcl.d
              have ncf := heap_lt hff
              have HCB := Lib.hid hcb
              have HCA := Lib.hid hca
              have HCR := Lib.hid (fun w => clampc_any color.d w)
              obtain ⟨D, hD⟩ : ∃ D, clV color.d = D := ⟨_, rfl⟩
              rw [hD] at HCR
              have HD := Lib.hid hD
              have h9 := CAt.set3 hca D
              have H9 := Lib.hid h9
              have HC9 : Hid (Chg [bc] w15 (wr.setCell ⟨bc, 3, none⟩ (.int .i32 D))) := Lib.hid (hcb.setCell (p := ⟨bc, 3, none⟩) (by simp) _)
              clear hff hcl hca hcb h9 hD
              cases hmm : s.m3
              · rw [hmm] at hm
                gi_wp2
                go_roundw
                case rel => exact ⟨4, by omega, rfl, Lib.hid ⟨by have h5 := HCA.out; simp only [pkS, pickV, hmm] at h5 ⊢; exact h5, HCB.out⟩⟩
                case measure => simp [intOf]
              · rw [hmm] at hm
                gi_wp2
                refine wp_via [(83, .int .i64 3), (85, .int .i64 3), (89, .pointer (some ⟨bc, 0, none⟩)), (86, .pointer (some ⟨n + 1 + 1 + 1, 3, none⟩)), (84, .func (.func 59) #[] #[]), (87, .int .i32 color.d), (88, .int .i32 D), (90, .pointer (some ⟨bc, 3, none⟩))] (wr.drew.setCell ⟨bc, 3, none⟩ (.int .i32 D)) ?h1 ?h2
                case h1 =>
                  refine region_round (by kernel_rfl) (by kernel_rfl) ?_
                  refine wpAnyIn_take (i := 0) (v := ?_) rfl rfl (by kernel_rfl) (by kernel_rfl) (by kernel_rfl) via_panic ⟨Or.inl ⟨by rfl, ?_⟩, fun _ => rfl⟩ ?_
                  rotate_left
                  · intro w
                    go_simp
                    with_reducible rfl
                  refine wpAnyIn_take (i := 2) (v := ?_) rfl rfl (by kernel_rfl) (by kernel_rfl) (by kernel_rfl) via_panic ⟨Or.inl ⟨by rfl, ?_⟩, fun _ => rfl⟩ ?_
                  rotate_left
                  · intro w
                    go_simp
                    with_reducible rfl
                  refine wpAnyIn_take (i := 6) (v := ?_) rfl rfl (by kernel_rfl) (by kernel_rfl) (by kernel_rfl) via_panic ⟨Or.inl ⟨by rfl, ?_⟩, fun _ => rfl⟩ ?_
                  rotate_left
                  · intro w
                    go_simp
                    with_reducible rfl
                  refine wpAnyIn_take (i := 3) (v := ?_) rfl rfl (by kernel_rfl) (by kernel_rfl) (by kernel_rfl) via_panic ⟨Or.inl ⟨by rfl, ?_⟩, fun _ => rfl⟩ ?_
                  rotate_left
                  · intro w
                    go_simp
                    with_reducible rfl
                  refine wpAnyIn_ready (rs := [1, 4]) (by kernel_rfl) (by simp) (AllReadyIn.cons rfl (fun K hK => ?_) (AllReadyIn.cons rfl (fun K hK => ?_) AllReadyIn.nil))
                  · go_simp
                    refine hK _ _ ?_
                    clear hK K
                    refine wpAnyIn_ready (rs := [4]) (by kernel_rfl) (by simp) (AllReadyIn.cons rfl (fun K hK => ?_) AllReadyIn.nil)
                    go_simp
                    refine hK _ _ ?_
                    clear hK K
                    refine wpAnyIn_ready (rs := [5]) (by kernel_rfl) (by simp) (AllReadyIn.cons rfl (fun K hK => ?_) AllReadyIn.nil)
                    go_simp
                    refine ⟨trivial, (callsIn_wide (n := 6)).2 ((HCR.out _).mono ?_)⟩
                    rintro _ _ ⟨rfl, rfl⟩
                    refine hK _ _ ?_
                    clear hK K
                    refine wpAnyIn_ready (rs := [7]) (by kernel_rfl) (by simp) (AllReadyIn.cons rfl (fun K hK => ?_) AllReadyIn.nil)
                    go_simp
                    refine hK _ _ ?_
                    clear hK K
                    refine wpAnyIn_ready (rs := [8]) (by kernel_rfl) (by simp) (AllReadyIn.cons rfl (fun K hK => ?_) AllReadyIn.nil)
                    go_simp
                    refine hK _ _ ?_
                    clear hK K
                    refine wpAnyIn_done (by kernel_rfl) ⟨rfl, ?_, rfl⟩ _
                    simp only [putAll, List.foldl_cons, List.foldl_nil]
                    go_simp
                  · go_simp
                    refine hK _ _ ?_
                    clear hK K
                    refine wpAnyIn_ready (rs := [1]) (by kernel_rfl) (by simp) (AllReadyIn.cons rfl (fun K hK => ?_) AllReadyIn.nil)
                    go_simp
                    refine hK _ _ ?_
                    clear hK K
                    refine wpAnyIn_ready (rs := [5]) (by kernel_rfl) (by simp) (AllReadyIn.cons rfl (fun K hK => ?_) AllReadyIn.nil)
                    go_simp
                    refine ⟨trivial, (callsIn_wide (n := 6)).2 ((HCR.out _).mono ?_)⟩
                    rintro _ _ ⟨rfl, rfl⟩
                    refine hK _ _ ?_
                    clear hK K
                    refine wpAnyIn_ready (rs := [7]) (by kernel_rfl) (by simp) (AllReadyIn.cons rfl (fun K hK => ?_) AllReadyIn.nil)
                    go_simp
                    refine hK _ _ ?_
                    clear hK K
                    refine wpAnyIn_ready (rs := [8]) (by kernel_rfl) (by simp) (AllReadyIn.cons rfl (fun K hK => ?_) AllReadyIn.nil)
                    go_simp
                    refine hK _ _ ?_
                    clear hK K
                    refine wpAnyIn_done (by kernel_rfl) ⟨rfl, ?_, rfl⟩ _
                    simp only [putAll, List.foldl_cons, List.foldl_nil]
                    go_simp
                case h2 =>
                  simp only [putAll, List.foldl_cons, List.foldl_nil]
                  gi_wp2
                  go_roundw
                  case rel => exact ⟨4, by omega, rfl, Lib.hid ⟨by show CAt (wr.setCell ⟨bc, 3, none⟩ (.int .i32 D)) bc _; have h5 := H9.out; rw [← HD.out] at h5 ⊢; simp only [pkS, pickV, hmm, if_true] at h5 ⊢; exact h5, HC9.out.ext2 (Ext.refl _).drew⟩⟩
                  case measure => simp [intOf]
          · rw [if_neg hon] at hca
            have hk1 : kb = 0 := by rw [← hkb]; exact and1_off hon
            subst hk1
            have HCB := Lib.hid hcb
            have HCA := Lib.hid hca
            clear hff hcl hca hcb
            gi_wp2
            go_roundw
            case rel => exact ⟨m + 1, by omega, by go_num, Lib.hid ⟨by rw [if_neg hon]; exact HCA.out, HCB.out⟩⟩
            case measure => simp [intOf]; omega
        · obtain rfl : m = 4 := by omega
          clear hlt hm4 HR
          obtain ⟨c4, hc4⟩ : ∃ c4 : Ce, (if what % 2 = 1 then pkS s color.cl ce 4 else ce) = c4 := ⟨_, rfl⟩
          rw [hc4] at hca
          have H4v : Hid (c4 = ⟨(if what % 2 = 1 then (⟨if s.m0 then color.cl.a else ce.v.a, if s.m1 then color.cl.b else ce.v.b, if s.m2 then color.cl.c else ce.v.c, if s.m3 then color.cl.d else ce.v.d⟩ : V4) else ce.v), ce.dep, ce.sten⟩) := Lib.hid (by rw [← hc4]; split <;> rfl)
          have HWR : Hid (Ext W wr) := Lib.hid (HX15.out.chgTrans hcb (by have := HBC.out; simp; omega))
          have HCA := Lib.hid hca
          have hfn : wr.cell? ⟨bf, 0, none⟩ = some (.func (.func 59) #[] #[]) := cell_of_heap hff rfl
          have hdw : wr.cell? ⟨n + 1, 21, none⟩ = some (.bool s.dw) := cell_of_heap hcl.b rfl
          have hwr : wr.cell? ⟨n + 1, 9, none⟩ = some (.int .i64 s.f.write) := cell_of_heap hcl.b rfl
          have hde : wr.cell? ⟨n + 1 + 1 + 1 + 1, 0, none⟩ = some (.int .i32 dep) := cell_of_heap hcl.e rfl
          have hse : wr.cell? ⟨n + 1 + 1 + 1 + 1 + 1, 0, none⟩ = some (.int .i64 sten) := cell_of_heap hcl.f rfl
          have hc5 : wr.cell? ⟨bc, 5, none⟩ = some (.int .i64 c4.sten) := cell_of_heap hca rfl
          have hc6 : wr.cell? ⟨bc, 4, none⟩ = some (.int .i32 c4.dep) := cell_of_heap hca rfl
          have hf4 : wr.frozen? ⟨bc, 4, none⟩ = false := free_of_heap hca
          have hf5 : wr.frozen? ⟨bc, 5, none⟩ = false := free_of_heap hca
          have nbc := heap_lt hca
          have nff := heap_lt hff
          have ncl := heap_lt hcl.f
          have ncl2 : n + 1 + 1 + 1 + 1 < wr.heap.size := by omega
          have ncl3 : n + 1 < wr.heap.size := by omega
          have HBN : Hid (n + 1 + 1 + 1 + 1 + 1 < bc ∧ bf < bc) := Lib.hid (by have := HBC.out; have := heap_lt HCL.out.f; have := heap_lt HF.out; omega)
          have HCIN := Lib.hid HCEI.out.1
          obtain ⟨k2, hk2⟩ : ∃ k2, bits BinOp.and IntKind.i64 (what : Int) 2 = k2 := ⟨_, rfl⟩
          obtain ⟨k4, hk4⟩ : ∃ k4, bits BinOp.and IntKind.i64 (what : Int) 4 = k4 := ⟨_, rfl⟩
          clear hff hcl hca hcb hc4
          have HVI := Lib.hid (clr_in s what color ce HCIN.out)
          by_cases h4 : what / 4 % 2 = 1
          · have e4 : k4 = 4 := by rw [← hk4]; exact and4_on hw h4
            subst e4
            obtain ⟨E1, hE1⟩ : ∃ E1, bits .andNot .i64 c4.sten s.f.write = E1 := ⟨_, rfl⟩
            obtain ⟨E2, hE2⟩ : ∃ E2, bits .and .i64 sten s.f.write = E2 := ⟨_, rfl⟩
            obtain ⟨E3, hE3⟩ : ∃ E3, bits .or .i64 E1 E2 = E3 := ⟨_, rfl⟩
            have HE3 : Hid (bits .or .i64 (bits .andNot .i64 ce.sten s.f.write) (bits .and .i64 sten s.f.write) = E3) := Lib.hid (by rw [← hE3, ← hE1, ← hE2, H4v.out])
            by_cases h2 : what / 2 % 2 = 1 ∧ s.dw = true
            · have e2 : k2 = 2 := by rw [← hk2]; exact and2_on hw h2.1
              subst e2
              rw [h2.2] at hdw
              have HCR := Lib.hid (fun w => clampc_any dep w)
              obtain ⟨D, hD⟩ : ∃ D, clV dep = D := ⟨_, rfl⟩
              rw [hD] at HCR
              have HD := Lib.hid hD
              have HCg : Hid (CAt (wr.setCell ⟨bc, 4, none⟩ (.int .i32 D)) bc { c4 with dep := D }) := Lib.hid (CAt.set4 HCA.out D)
              have hg5 : (wr.setCell ⟨bc, 4, none⟩ (.int .i32 D)).cell? ⟨bc, 5, none⟩ = some (.int .i64 c4.sten) := cell_of_heap HCg.out rfl
              have hgf : (wr.setCell ⟨bc, 4, none⟩ (.int .i32 D)).frozen? ⟨bc, 5, none⟩ = false := free_of_heap HCg.out
              have HCf := Lib.hid (CAt.set5 HCg.out E3)
              have HWf : Hid (Ext W ((wr.setCell ⟨bc, 4, none⟩ (.int .i32 D)).setCell ⟨bc, 5, none⟩ (.int .i64 E3))) := Lib.hid ((HWR.out.setCell (p := ⟨bc, 4, none⟩) HBC.out.2 _).setCell (p := ⟨bc, 5, none⟩) HBC.out.2 _)
              have HEQ : Hid (({ ({ c4 with dep := D } : Ce) with sten := E3 } : Ce) = clrC s what color dep sten ce) := Lib.hid (by rw [H4v.out]; unfold clrC; rw [if_pos h2, if_pos h4, HD.out, HE3.out])
              have HIN : Hid (Ce.In { ({ c4 with dep := D } : Ce) with sten := E3 }) := Lib.hid (by rw [H4v.out]; exact ⟨HVI.out, (show -2147483648 ≤ D ∧ D ≤ 2147483647 by have := clV_in dep; rw [hD] at this; omega)⟩)
              clear hD
              have HCf : Hid (CAt ((wr.setCell ⟨bc, 4, none⟩ (.int .i32 D)).setCell ⟨bc, 5, none⟩ (.int .i64 E3)) bc { ({ c4 with dep := D } : Ce) with sten := E3 }) := HCf
              have l19 := CAt.load2 HCf.out
              have cp : (((wr.setCell ⟨bc, 4, none⟩ (.int .i32 D)).setCell ⟨bc, 5, none⟩ (.int .i64 E3))).cell? ⟨n, 0, none⟩ = some (.pointer (some ⟨B.p, 0, none⟩)) := cell_of_heap (HWf.out.heap HCL.out.a) rfl
              have np19 := heap_lt (HWf.out.heap HCL.out.a)
              have nb19 := heap_lt HCf.out
              gi_wp2_with (first | (refine ⟨trivial, callR ((HCR.out _).mono ?_)⟩; rintro _ _ ⟨rfl, rfl⟩) | (refine ⟨trivial, callR ((HLA.out _ (HPL.out.ext HWf.out) _ HIN.out).mono ?_)⟩; rintro _ w20 ⟨rfl, hp20, hc20⟩))
              have hcc := (HWf.out.chg [B.c, B.d, B.m]).trans hc20
              refine ⟨hcc.keeps (fun k hk => .inl ?_), hcc.kept (fun k hk hs => ?_), ?_, HCH.out.trans hcc⟩
              · have h1 := HBL.out
                have h2 := HX12.out.size
                simp at hk
                omega
              · have h1 := HBL.out
                have h2 := HS23.out
                simp at hk
                unfold cS at hs
                omega
              · rw [HSU2.out, ← HEQ.out]
                exact hp20
            · have HCf := Lib.hid (CAt.set5 HCA.out E3)
              have HWf : Hid (Ext W (wr.setCell ⟨bc, 5, none⟩ (.int .i64 E3))) := Lib.hid (HWR.out.setCell (p := ⟨bc, 5, none⟩) HBC.out.2 _)
              have HEQ : Hid (({ c4 with sten := E3 } : Ce) = clrC s what color dep sten ce) := Lib.hid (by rw [H4v.out]; unfold clrC; rw [if_neg h2, if_pos h4, HE3.out])
              have HIN : Hid (Ce.In { c4 with sten := E3 }) := Lib.hid (by rw [H4v.out]; exact ⟨HVI.out, HCIN.out.2⟩)
              have hdd : k2 = 0 ∨ (k2 = 2 ∧ s.dw = false) := by rw [← hk2]; exact and2_off hw h2
              rcases hdd with rfl | ⟨rfl, hdd⟩
              · clear h2
                have HCf : Hid (CAt (wr.setCell ⟨bc, 5, none⟩ (.int .i64 E3)) bc { c4 with sten := E3 }) := HCf
                have l19 := CAt.load2 HCf.out
                have cp : ((wr.setCell ⟨bc, 5, none⟩ (.int .i64 E3))).cell? ⟨n, 0, none⟩ = some (.pointer (some ⟨B.p, 0, none⟩)) := cell_of_heap (HWf.out.heap HCL.out.a) rfl
                have np19 := heap_lt (HWf.out.heap HCL.out.a)
                have nb19 := heap_lt HCf.out
                gi_wp2_with (first | (refine ⟨trivial, callR ((HCR.out _).mono ?_)⟩; rintro _ _ ⟨rfl, rfl⟩) | (refine ⟨trivial, callR ((HLA.out _ (HPL.out.ext HWf.out) _ HIN.out).mono ?_)⟩; rintro _ w20 ⟨rfl, hp20, hc20⟩))
                have hcc := (HWf.out.chg [B.c, B.d, B.m]).trans hc20
                refine ⟨hcc.keeps (fun k hk => .inl ?_), hcc.kept (fun k hk hs => ?_), ?_, HCH.out.trans hcc⟩
                · have h1 := HBL.out
                  have h2 := HX12.out.size
                  simp at hk
                  omega
                · have h1 := HBL.out
                  have h2 := HS23.out
                  simp at hk
                  unfold cS at hs
                  omega
                · rw [HSU2.out, ← HEQ.out]
                  exact hp20
              · clear h2
                rw [hdd] at hdw
                have HCf : Hid (CAt (wr.setCell ⟨bc, 5, none⟩ (.int .i64 E3)) bc { c4 with sten := E3 }) := HCf
                have l19 := CAt.load2 HCf.out
                have cp : ((wr.setCell ⟨bc, 5, none⟩ (.int .i64 E3))).cell? ⟨n, 0, none⟩ = some (.pointer (some ⟨B.p, 0, none⟩)) := cell_of_heap (HWf.out.heap HCL.out.a) rfl
                have np19 := heap_lt (HWf.out.heap HCL.out.a)
                have nb19 := heap_lt HCf.out
                gi_wp2_with (first | (refine ⟨trivial, callR ((HCR.out _).mono ?_)⟩; rintro _ _ ⟨rfl, rfl⟩) | (refine ⟨trivial, callR ((HLA.out _ (HPL.out.ext HWf.out) _ HIN.out).mono ?_)⟩; rintro _ w20 ⟨rfl, hp20, hc20⟩))
                have hcc := (HWf.out.chg [B.c, B.d, B.m]).trans hc20
                refine ⟨hcc.keeps (fun k hk => .inl ?_), hcc.kept (fun k hk hs => ?_), ?_, HCH.out.trans hcc⟩
                · have h1 := HBL.out
                  have h2 := HX12.out.size
                  simp at hk
                  omega
                · have h1 := HBL.out
                  have h2 := HS23.out
                  simp at hk
                  unfold cS at hs
                  omega
                · rw [HSU2.out, ← HEQ.out]
                  exact hp20
          · have e4 : k4 = 0 := by rw [← hk4]; exact and4_off hw h4
            subst e4
            by_cases h2 : what / 2 % 2 = 1 ∧ s.dw = true
            · have e2 : k2 = 2 := by rw [← hk2]; exact and2_on hw h2.1
              subst e2
              rw [h2.2] at hdw
              have HCR := Lib.hid (fun w => clampc_any dep w)
              obtain ⟨D, hD⟩ : ∃ D, clV dep = D := ⟨_, rfl⟩
              rw [hD] at HCR
              have HD := Lib.hid hD
              have HCf := Lib.hid (CAt.set4 HCA.out D)
              have HWf : Hid (Ext W (wr.setCell ⟨bc, 4, none⟩ (.int .i32 D))) := Lib.hid (HWR.out.setCell (p := ⟨bc, 4, none⟩) HBC.out.2 _)
              have HEQ : Hid (({ c4 with dep := D } : Ce) = clrC s what color dep sten ce) := Lib.hid (by rw [H4v.out]; unfold clrC; rw [if_pos h2, if_neg h4, HD.out])
              have HIN : Hid (Ce.In { c4 with dep := D }) := Lib.hid (by rw [H4v.out]; exact ⟨HVI.out, (show -2147483648 ≤ D ∧ D ≤ 2147483647 by have := clV_in dep; rw [hD] at this; omega)⟩)
              clear hD
              have HCf : Hid (CAt (wr.setCell ⟨bc, 4, none⟩ (.int .i32 D)) bc { c4 with dep := D }) := HCf
              have l19 := CAt.load2 HCf.out
              have cp : ((wr.setCell ⟨bc, 4, none⟩ (.int .i32 D))).cell? ⟨n, 0, none⟩ = some (.pointer (some ⟨B.p, 0, none⟩)) := cell_of_heap (HWf.out.heap HCL.out.a) rfl
              have np19 := heap_lt (HWf.out.heap HCL.out.a)
              have nb19 := heap_lt HCf.out
              gi_wp2_with (first | (refine ⟨trivial, callR ((HCR.out _).mono ?_)⟩; rintro _ _ ⟨rfl, rfl⟩) | (refine ⟨trivial, callR ((HLA.out _ (HPL.out.ext HWf.out) _ HIN.out).mono ?_)⟩; rintro _ w20 ⟨rfl, hp20, hc20⟩))
              have hcc := (HWf.out.chg [B.c, B.d, B.m]).trans hc20
              refine ⟨hcc.keeps (fun k hk => .inl ?_), hcc.kept (fun k hk hs => ?_), ?_, HCH.out.trans hcc⟩
              · have h1 := HBL.out
                have h2 := HX12.out.size
                simp at hk
                omega
              · have h1 := HBL.out
                have h2 := HS23.out
                simp at hk
                unfold cS at hs
                omega
              · rw [HSU2.out, ← HEQ.out]
                exact hp20
            · have HCf := Lib.hid HCA.out
              have HWf := Lib.hid HWR.out
              have HEQ : Hid (c4 = clrC s what color dep sten ce) := Lib.hid (by rw [H4v.out]; unfold clrC; rw [if_neg h2, if_neg h4])
              have HIN : Hid (Ce.In c4) := Lib.hid (by rw [H4v.out]; exact ⟨HVI.out, HCIN.out.2⟩)
              have hdd : k2 = 0 ∨ (k2 = 2 ∧ s.dw = false) := by rw [← hk2]; exact and2_off hw h2
              rcases hdd with rfl | ⟨rfl, hdd⟩
              · clear h2
                have HCf : Hid (CAt wr bc c4) := HCf
                have l19 := CAt.load2 HCf.out
                have cp : (wr).cell? ⟨n, 0, none⟩ = some (.pointer (some ⟨B.p, 0, none⟩)) := cell_of_heap (HWf.out.heap HCL.out.a) rfl
                have np19 := heap_lt (HWf.out.heap HCL.out.a)
                have nb19 := heap_lt HCf.out
                gi_wp2_with (first | (refine ⟨trivial, callR ((HCR.out _).mono ?_)⟩; rintro _ _ ⟨rfl, rfl⟩) | (refine ⟨trivial, callR ((HLA.out _ (HPL.out.ext HWf.out) _ HIN.out).mono ?_)⟩; rintro _ w20 ⟨rfl, hp20, hc20⟩))
                have hcc := (HWf.out.chg [B.c, B.d, B.m]).trans hc20
                refine ⟨hcc.keeps (fun k hk => .inl ?_), hcc.kept (fun k hk hs => ?_), ?_, HCH.out.trans hcc⟩
                · have h1 := HBL.out
                  have h2 := HX12.out.size
                  simp at hk
                  omega
                · have h1 := HBL.out
                  have h2 := HS23.out
                  simp at hk
                  unfold cS at hs
                  omega
                · rw [HSU2.out, ← HEQ.out]
                  exact hp20
              · clear h2
                rw [hdd] at hdw
                have HCf : Hid (CAt wr bc c4) := HCf
                have l19 := CAt.load2 HCf.out
                have cp : (wr).cell? ⟨n, 0, none⟩ = some (.pointer (some ⟨B.p, 0, none⟩)) := cell_of_heap (HWf.out.heap HCL.out.a) rfl
                have np19 := heap_lt (HWf.out.heap HCL.out.a)
                have nb19 := heap_lt HCf.out
                gi_wp2_with (first | (refine ⟨trivial, callR ((HCR.out _).mono ?_)⟩; rintro _ _ ⟨rfl, rfl⟩) | (refine ⟨trivial, callR ((HLA.out _ (HPL.out.ext HWf.out) _ HIN.out).mono ?_)⟩; rintro _ w20 ⟨rfl, hp20, hc20⟩))
                have hcc := (HWf.out.chg [B.c, B.d, B.m]).trans hc20
                refine ⟨hcc.keeps (fun k hk => .inl ?_), hcc.kept (fun k hk hs => ?_), ?_, HCH.out.trans hcc⟩
                · have h1 := HBL.out
                  have h2 := HX12.out.size
                  simp at hk
                  omega
                · have h1 := HBL.out
                  have h2 := HS23.out
                  simp at hk
                  unfold cS at hs
                  omega
                · rw [HSU2.out, ← HEQ.out]
                  exact hp20
    case done =>
      rintro D W hD ⟨hpl, hch⟩ hDW
      have hsz : w.heap.size ≤ w12.heap.size := HX12.out.size
      have HMK := Lib.hid ((Marks.nil w.heap.size w12).more hch (by
        intro m hm
        simp only [List.mem_cons, List.not_mem_nil, or_false] at hm
        rcases hm with rfl | rfl | rfl
        · exact ⟨_, HP12.out.c, rfl⟩
        · exact ⟨_, HP12.out.d, rfl⟩
        · exact ⟨_, HP12.out.m, rfl⟩) hsz hD hDW)
      rw [← HX.out, plk_all] at hpl
      have HPL := Lib.hid hpl
      have HCW := Lib.hid ((HX12.out.chg [B.c, B.d, B.m]).trans hch)
      clear hpl hch hDW hsz n2 n3
      go_wp2_with fail
      refine retM HMK.out fun W3 ht => ?_
      exact ⟨.int .i64 0, by simp [results, go_sem, Try.f14], rfl, HPL.out.turn ht, HCW.out.turn ht (Nat.le_refl _)⟩
end
end Go.Proofs.Ytgdcdkajicgliaa
