/- What the law's told says of a tile's list. Conditions: each theorem's own premises. -/
import Derived.Test.YtocdkdkiiammfaaSm
import Derived.Test.YtocdkdkiiammfaaRnd
import Derived.Sort.BigQuietIn
namespace Go.Proofs.Ytocdkdkiiammfaa
open Go.RowKit
set_option linter.unusedVariables false
set_option maxRecDepth 100000
set_option linter.unusedSimpArgs false

/-- A region that draws its order, in a round of a range over a function, whose callees only lay new blocks. -/
theorem round_region_ext {l n : Nat} {P : Program} {id : Nat} {Q : Exit → Act → World → Prop} {a : Act} {w : World} {L : List Oper} (hm : P.follows .mixedOrders = true) (hp : plainOps L.toArray = true) (hB : Region.lexB .any L.toArray = true)
    (h : wpQuietIn Fence.wide n P L.toArray (fun w' => ∃ x : XW w, w' = x.W) (fun a' => ∀ w', (∃ x : XW w, w' = x.W) → Q .normal a' w') L a) : (Code.region id L.toArray true).wpIn (Fence.wide.inRound l) n P Q a w := by
  simp only [Region.lexB, Bool.and_eq_true] at hB
  refine region_round hm hp (wpAnyIn_of_quiet (C := fun w' => ∃ x : XW w, w' = x.W) (Q := fun a' => ∀ w', (∃ x : XW w, w' = x.W) → Q .normal a' w') rfl (fun _ w' hw' h => h w' hw') _ _ _ _ ⟨⟨w.drew, (Ext.refl w).drew⟩, rfl⟩ ?_)
  have := wpAnyQIn_lex (F := Fence.wide) (n := n) (P := P) (C := fun w' => ∃ x : XW w, w' = x.W) (Q := fun a' => ∀ w', (∃ x : XW w, w' = x.W) → Q .normal a' w') (md := .any) hB.1 L 0 (Array.replicate L.toArray.size false) a (by simp) (by simpa using hB.2) h
  simpa using this
theorem quietIn_ext {F : Fence} {r : Nat} {P : Program} {f : FuncId} {args : Array Value} {w : World} {x : XW w} {v : Value}
    (h : CallsIn F r P f args x.W fun e w' => e = .returned v ∧ Ext x.W w') : CallsIn F r P f args x.W fun e w'' => e = .returned v ∧ ∃ y : XW w, w'' = y.W :=
  h.mono fun _ w' ⟨he, hx⟩ => ⟨he, ⟨⟨w', x.h.trans hx⟩, rfl⟩⟩
theorem St_VcF (v u : Value) : Instr.storeAt 41 v u = @Classical.epsilon _ neG (StF 41 v u) := StF_eq _ _ _
theorem row_blk {w : World} {base n size : Nat} {e : TypeId} {a : Option Addr} {cap : Nat} {xs : List Value} (h : w.ownsRow base e size (.slice a n cap) n xs) (h0 : 0 < n) : ∃ g cur, a = some ⟨g, 0, none⟩ ∧ w.heap[g]? = some (.cells (List.toArray cur) e (0, 0)) ∧ n * size ≤ cur.length := by
  rcases h.2 with ⟨h1, h2⟩ | ⟨g, cap', cur, h1, hb, hh, hn, hm, hs, ht⟩
  · omega
  · simp only [Value.slice.injEq] at h1
    obtain ⟨rfl, _, rfl⟩ := h1
    refine ⟨g, cur.toList, rfl, by simpa using hh, ?_⟩
    have := Nat.mul_le_mul_right size hn
    simp only [Array.length_toList]
    omega
theorem wide_fn (f : FuncId) : Fence.wide.fn f = True := eq_true trivial
theorem eql_seq (cb : Nat) (w : World) : (binOp .eql 47 (.func (.func 23) #[] #[.pointer (some ⟨cb, 0, none⟩)]) .nilFunc).run Try.prog w = .ok (.bool false) w := by kernel_rfl
def asA : Value → Addr
  | .pointer (some a) => a
  | _ => ⟨0, 0, none⟩
/-- What holds between the two rounds. -/
def TldR (cb : Nat) (aM : Option Addr) (cM n b3 : Nat) (w3 : World) (a' : Act) (W : World) : Prop :=
  ∃ (r b5 : Nat) (ds : List Deferred) (x2 x6 x7 x8 x9 x10 x11 x12 x13 x14 x15 x16 x17 x18 x19 x20 x21 x22 x23 x24 x25 x26 x27 x28 x29 x30 x31 x32 x33 x34 x35 x36 x37 x38 x39 x40 x41 x42 x43 x44 x45 x46 x47 x48 x49 x50 x51 x52 x53 x54 x55 x56 x57 x58 x59 x60 x61 x62 x63 x64 x65 x66 x67 : Value), r ≤ 2 ∧ Marks b3 W ds ∧ Hid (W.heap[b5]? = some (.cells #[.int .i64 r] 3 (0, 0)) ∧ w3.heap.size ≤ b5 ∧ Ext w3 W) ∧ a' = { tmps := (#[.func (.func 23) #[] #[.pointer (some ⟨cb, 0, none⟩)], .slice aM n cM, x2, .pointer (some ⟨b3, 0, none⟩), .pointer (some ⟨b3 + 1, 0, none⟩), .pointer (some ⟨b5, 0, none⟩), x6, x7, x8, x9, x10, x11, x12, x13, x14, x15, x16, x17, x18, x19, x20, x21, x22, x23, x24, x25, x26, x27, x28, x29, x30, x31, x32, x33, x34, x35, x36, x37, x38, x39, x40, x41, x42, x43, x44, x45, x46, x47, x48, x49, x50, x51, x52, x53, x54, x55, x56, x57, x58, x59, x60, x61, x62, x63, x64, x65, x66, x67] : Array Value), defers := ds }
theorem tldR_elim {cb : Nat} {aM : Option Addr} {cM n b3 : Nat} {w3 : World} (G : Act → World → Prop) (h : ∀ (r b5 : Nat) (ds : List Deferred) (x2 x6 x7 x8 x9 x10 x11 x12 x13 x14 x15 x16 x17 x18 x19 x20 x21 x22 x23 x24 x25 x26 x27 x28 x29 x30 x31 x32 x33 x34 x35 x36 x37 x38 x39 x40 x41 x42 x43 x44 x45 x46 x47 x48 x49 x50 x51 x52 x53 x54 x55 x56 x57 x58 x59 x60 x61 x62 x63 x64 x65 x66 x67 : Value) (W : World), r ≤ 2 → Marks b3 W ds → Hid (W.heap[b5]? = some (.cells #[.int .i64 r] 3 (0, 0)) ∧ w3.heap.size ≤ b5 ∧ Ext w3 W) → G { tmps := (#[.func (.func 23) #[] #[.pointer (some ⟨cb, 0, none⟩)], .slice aM n cM, x2, .pointer (some ⟨b3, 0, none⟩), .pointer (some ⟨b3 + 1, 0, none⟩), .pointer (some ⟨b5, 0, none⟩), x6, x7, x8, x9, x10, x11, x12, x13, x14, x15, x16, x17, x18, x19, x20, x21, x22, x23, x24, x25, x26, x27, x28, x29, x30, x31, x32, x33, x34, x35, x36, x37, x38, x39, x40, x41, x42, x43, x44, x45, x46, x47, x48, x49, x50, x51, x52, x53, x54, x55, x56, x57, x58, x59, x60, x61, x62, x63, x64, x65, x66, x67] : Array Value), defers := ds } W) : ∀ a' W, TldR cb aM cM n b3 w3 a' W → G a' W := by
  rintro a' W ⟨r, b5, ds, x2, x6, x7, x8, x9, x10, x11, x12, x13, x14, x15, x16, x17, x18, x19, x20, x21, x22, x23, x24, x25, x26, x27, x28, x29, x30, x31, x32, x33, x34, x35, x36, x37, x38, x39, x40, x41, x42, x43, x44, x45, x46, x47, x48, x49, x50, x51, x52, x53, x54, x55, x56, x57, x58, x59, x60, x61, x62, x63, x64, x65, x66, x67, hr, hm, HI, rfl⟩
  exact h r b5 ds x2 x6 x7 x8 x9 x10 x11 x12 x13 x14 x15 x16 x17 x18 x19 x20 x21 x22 x23 x24 x25 x26 x27 x28 x29 x30 x31 x32 x33 x34 x35 x36 x37 x38 x39 x40 x41 x42 x43 x44 x45 x46 x47 x48 x49 x50 x51 x52 x53 x54 x55 x56 x57 x58 x59 x60 x61 x62 x63 x64 x65 x66 x67 W hr hm HI
section
attribute [local go_sem ↓] Ld_Sk St_Sk St_VcF
attribute [local go_sem] eql_seq
attribute [local go_sem] Oper.semAt_some
attribute [local simp] wide_fn
set_option maxHeartbeats 8000000 in
theorem told_any (cb : Nat) (lv : Value) (L : List (Sk × Value)) (vM : Value) (M : List (Sk × Value)) (w : World) (hcb : w.heap[cb]? = some (.cells #[lv] 34 (0, 0))) (hL : SksAt w lv L) (hM : SksAt w vM M) (hLM : L.map (·.1) = M.map (·.1)) (hsb : ∀ k, lS cb lv L k → k < w.heap.size) (hlb : L.length ≤ 1000) (hvb : ∀ q ∈ L, q.1.vars.length ≤ 1000) :
    Calls Try.prog 17 #[.func (.func 23) #[] #[.pointer (some ⟨cb, 0, none⟩)], vM] w fun e w' => e = .returned (.bool true) ∧ Ext w w' := by
  have HCB := Lib.hid hcb
  have HL := Lib.hid hL
  have HM := Lib.hid hM
  have hml : M.length = L.length := by have := congrArg List.length hLM; rw [List.length_map, List.length_map] at this; exact this.symm
  have HML := Lib.hid hml
  have HLM := Lib.hid hLM
  have HVB := Lib.hid hvb
  have HSB := Lib.hid hsb
  obtain ⟨_, aM, cM, rfl, _, _, _, _⟩ := hM.1
  rw [hml] at HM
  rw [hml]
  have hli : (L.length : Int) ≤ 1000 := by omega
  clear hcb hL hM hml hLM hvb hsb
  refine calls_of_marks Try.func17 rfl ?_
  simp only [Try.ntmps17, List.size_toArray, List.length_cons, List.length_nil, Nat.reduceAdd, Nat.reduceSub, Array.replicate_succ, Array.replicate_zero, List.push_toArray, List.append_toArray, List.nil_append, List.cons_append]
  go_upto_region 3 with fail
  obtain ⟨w3, hw3, hA, hB, hx3⟩ : ∃ w3, (w.alloc (.cells #[.slice aM L.length cM] 34)).alloc (.cells #[.bool false] 4) = w3 ∧ w3.heap[w.heap.size]? = some (.cells #[.slice aM L.length cM] 34 (0, 0)) ∧ w3.heap[w.heap.size + 1]? = some (.cells #[.bool false] 4 (0, 0)) ∧ Ext w w3 := ⟨_, rfl, (heap_pair _ _ _).1, (heap_pair _ _ _).2, ((Ext.refl _).alloc _).alloc _⟩
  rw [hw3]
  obtain ⟨b3, hb3⟩ : ∃ b, w.heap.size = b := ⟨_, rfl⟩
  rw [hb3] at hA hB
  rw [hb3]
  have HX3 := Lib.hid hx3
  have HA := Lib.hid hA
  have HB := Lib.hid hB
  have HB3 := Lib.hid hb3
  clear hw3 hA hB hx3 hb3
  go_wp2_with fail
  obtain ⟨w4, hw4, hc4, hx4⟩ : ∃ w4, w3.alloc (.cells #[.int .i64 0] 3) = w4 ∧ w4.heap[w3.heap.size]? = some (.cells #[.int .i64 0] 3 (0, 0)) ∧ Ext w3 w4 := ⟨_, rfl, heap_alloc_new _ _, (Ext.refl _).alloc _⟩
  rw [hw4]
  have HX4 := Lib.hid hx4
  have HC4 := Lib.hid hc4
  have HSZ : Hid (b3 + 1 < w3.heap.size) := Lib.hid (heap_lt HB.out)
  clear hw4 hc4 hx4
  refine wp_loop (fun a' W => TldR cb aM cM L.length b3 w3 a' W) (fun a' W => 2 - (intOf ((W.cell? (asA (a'.tmps.getD 5 undef))).getD undef)).toNat) ⟨0, w3.heap.size, [], _, _, _, _, _, _, _, _, _, _, _, _, _, _, _, _, _, _, _, _, _, _, _, _, _, _, _, _, _, _, _, _, _, _, _, _, _, _, _, _, _, _, _, _, _, _, _, _, _, _, _, _, _, _, _, _, _, _, _, _, _, _, _, Nat.zero_le _, Marks.nil _ _, Lib.hid ⟨HC4.out, Nat.le_refl _, HX4.out⟩, rfl⟩ ?_
  refine tldR_elim _ ?_
  intro r b5 ds x2 x6 x7 x8 x9 x10 x11 x12 x13 x14 x15 x16 x17 x18 x19 x20 x21 x22 x23 x24 x25 x26 x27 x28 x29 x30 x31 x32 x33 x34 x35 x36 x37 x38 x39 x40 x41 x42 x43 x44 x45 x46 x47 x48 x49 x50 x51 x52 x53 x54 x55 x56 x57 x58 x59 x60 x61 x62 x63 x64 x65 x66 x67 W hr hm HI
  have hA' := HI.out.2.2.heap HA.out
  have hB' := HI.out.2.2.heap HB.out
  have c5 : W.cell? ⟨b5, 0, none⟩ = some (.int .i64 r) := cell_of_heap HI.out.1 rfl
  have n5 := heap_lt HI.out.1
  have HMK := Lib.hid hm
  have HCW := Lib.hid c5
  clear hm
  by_cases hlt : r < 2
  · have hri : (r : Int) < 2 := by omega
    go_wp2_with fail
    obtain ⟨w7, hw7, hc6, hx7⟩ : ∃ w7, W.alloc (.cells #[.int .i64 0] 3) = w7 ∧ w7.heap[W.heap.size]? = some (.cells #[.int .i64 0] 3 (0, 0)) ∧ Ext W w7 := ⟨_, rfl, heap_alloc_new _ _, (Ext.refl _).alloc _⟩
    rw [hw7]
    obtain ⟨b6, hb6⟩ : ∃ b6, W.heap.size = b6 := ⟨_, rfl⟩
    rw [hb6] at hc6
    rw [hb6]
    have HBL : Hid (b3 + 1 < b5 ∧ b5 < b6 ∧ b6 < w7.heap.size ∧ w.heap.size ≤ b3) := Lib.hid (by
      have h1 := HSZ.out
      have h2 := HI.out.2.1
      have h3 := heap_lt hc6
      have h4 := HB3.out
      omega)
    have HX7 := Lib.hid ((HX3.out.trans HI.out.2.2).trans hx7)
    have HX37 := Lib.hid (HI.out.2.2.trans hx7)
    have HC6 := Lib.hid hc6
    have HM7 := Lib.hid (HMK.out.ext hx7)
    have H5 := Lib.hid (hx7.heap HI.out.1)
    have hS7 : ∀ k, lS cb lv L k → k < w7.heap.size := fun k hk => Nat.lt_of_lt_of_le (HSB.out k hk) HX7.out.size
    clear hw7 hc6 hx7 hb6 hA' hB' c5 n5
    refine range_lawT rfl (enters_of Try.func23 (by kernel_rfl) rfl) (list_tells cb lv L w7 (HX7.out.heap HCB.out) (HL.out.ext HX7.out) HVB.out) (Below.refl _ _) hS7 (fun k args W h => by obtain ⟨q, vs, _, h, _⟩ := h; rw [h]; rfl) (fun k args A B h t => by obtain ⟨q, vs, h1, h2, h3⟩ := h; exact ⟨q, vs, h1, h2, ownsRow_turn h3 t⟩)
      (fun j W' => W'.heap[b6]? = some (.cells #[.int .i64 j] 3 (0, 0)) ∧ Chg [b6] w7 W') (fun c W' => c = .exit 2 ∧ r = 1 ∧ W'.heap[b6]? = some (.cells #[.int .i64 2] 3 (0, 0)) ∧ Chg [b6] w7 W')
      (fun j A B h t => ⟨t.cells h.1, h.2.turn t (Nat.le_refl _)⟩) (fun c A B h t => ⟨h.1, h.2.1, t.cells h.2.2.1, h.2.2.2.turn t (Nat.le_refl _)⟩) ⟨HC6.out, Chg.refl _ _⟩
      (fun t j args a' W' => ∃ (bs : Nat) (cs : Array Value), args.getD 1 undef = .agg cs ∧ a' = { tmps := (((t.setIfInBounds 17 (args.getD 0 undef)).setIfInBounds 18 (args.getD 1 undef)).setIfInBounds 7 (args.getD 0 undef)).setIfInBounds 8 (.pointer (some ⟨bs, 0, none⟩)), defers := [] } ∧ W'.heap[bs]? = some (.cells cs 46 (0, 0)))
      (fun t j args a' A B h x => by obtain ⟨bs, cs, h1, h2, h3⟩ := h; exact ⟨bs, cs, h1, h2, x.cells h3⟩) ?assign ?body ?done ?stop
    case assign =>
      rintro lp j args W2 K hj _ ⟨q, vs, hq, hg, hown⟩ hK
      subst hg
      obtain ⟨va, vc, rfl⟩ := ownsB_slice hown
      obtain ⟨w3, hst3, h3, hx3⟩ := newStroke W2 (q.1, .slice va q.1.vars.length vc) (by cases va <;> rfl)
      obtain ⟨⟨x, y, z1, iw, fb, ⟨p0, p1, p2, p3⟩, l, ⟨c0, c1, c2, c3⟩⟩, vv⟩ := q
      have H3 := Lib.hid h3
      have HX3 := Lib.hid hx3
      clear h3 hx3 hown hq
      gi_wp2
      exact hK _ _ HX3.out ⟨_, _, rfl, rfl, H3.out⟩
    case body =>
      rintro lp j args a' wb hj hszb ⟨hn6, hch⟩ ⟨q, vs, hq, hargs, hown⟩ ⟨bs, cs, hcs, ha, hbs⟩
      subst ha
      subst hargs
      obtain rfl : (skC (q.1, vs)).toArray = cs := Value.agg.inj hcs
      clear hcs
      obtain ⟨va, vc, rfl⟩ := ownsB_slice hown
      obtain ⟨q2, hq2⟩ : ∃ q2, M[j]? = some q2 := ⟨_, List.getElem?_eq_getElem (by rw [HML.out]; exact hj)⟩
      have hqq : q2.1 = q.1 := by
        have h := congrArg (fun l => l[j]?) HLM.out
        simp only [List.getElem?_map, hq, hq2, Option.map_some, Option.some.injEq] at h
        exact h.symm
      have hxb : Ext w wb := HX7.out.chgTrans hch (by have := HBL.out; simp; omega)
      have hmb := HM.out.ext hxb
      rw [← HML.out] at hmb
      obtain ⟨bM, oM, rfl, _, _⟩ := hmb.1.pos (by rw [HML.out]; omega)
      obtain ⟨q2s, v2⟩ := q2
      simp only at hqq
      subst hqq
      have hvl := HVB.out q (List.mem_of_getElem? hq)
      have HSAME : Hid (∀ x : XW wb, Calls Try.prog 24 #[.agg (skC (q.1, .slice va q.1.vars.length vc)).toArray, .agg (skC (q.1, v2)).toArray] x.W fun e w' => e = .returned (.bool true) ∧ Ext x.W w') := Lib.hid fun x => same26_any q.1 _ v2 x.W ((SlC.owned hown).ext x.h) ((hmb.2 _ (List.mem_of_getElem? hq2)).ext x.h) hvl
      have hA7 := hch.heap (HX37.out.heap HA.out) (by have := HBL.out; simp; omega)
      have h57 := hch.heap H5.out (by have := HBL.out; simp; omega)
      have y3 : ∀ x : XW wb, x.W.cell? ⟨b3, 0, none⟩ = some (.slice (some ⟨bM, oM, none⟩) L.length cM) := fun x => cell_of_heap (x.h.heap hA7) rfl
      have y6 : ∀ x : XW wb, x.W.cell? ⟨b6, 0, none⟩ = some (.int .i64 j) := fun x => cell_of_heap (x.h.heap hn6) rfl
      have y8 : ∀ x : XW wb, (@Classical.epsilon _ neF (LdF 46 (.pointer (some ⟨bs, 0, none⟩)))).run Try.prog x.W = .ok (.agg (skC (q.1, .slice va q.1.vars.length vc)).toArray) x.W := fun x => sk_loadB (x.h.heap hbs)
      have yM : ∀ x : XW wb, (@Classical.epsilon _ neF (LdF 46 (.pointer (some ⟨bM, oM + j * 14, none⟩)))).run Try.prog x.W = .ok (.agg (skC (q.1, v2)).toArray) x.W := fun x => sk_get (hmb.ext x.h) hq2
      have hji : (j : Int) < (L.length : Int) := by omega
      have hjd : decide (L.length ≤ j) = false := decide_eq_false (by omega)
      have HN6 := Lib.hid hn6
      have HCH := Lib.hid hch
      have HBS := Lib.hid hbs
      have HOW := Lib.hid hown
      have HVL := Lib.hid hvl
      have H57 := Lib.hid h57
      clear hn6 hch hbs hown hvl hq hq2 hxb hmb hA7 h57 hS7
      gi_wp2
      refine round_region_ext (by kernel_rfl) (by kernel_rfl) (by kernel_rfl) ?_
      repeat (gi_big_quiet_step ((gi_at_call 24; exact quietIn_ext ((callsIn_wide (n := 6)).2 (HSAME.out _)))))
      refine wpQuietIn_nil ?_
      intro _ hw'
      obtain ⟨xw, hw''⟩ := hw'
      subst hw''
      have HX8 := Lib.hid xw.h
      clear y3 y6 y8 yM HSAME
      generalize xw.W = w8 at *
      have h8 := HX8.out.heap HBS.out
      have e9 : w8.cell? ⟨bs, 9, none⟩ = some (.slice va q.1.vars.length vc) := cell_of_heap h8 rfl
      have n8 := heap_lt h8
      have hvi : (q.1.vars.length : Int) ≤ 1000 := by have := HVL.out; omega
      have HBSM : Hid ((Value.slice va q.1.vars.length vc).ownBlock ≠ some bs) := Lib.hid (own_ne HOW.out HBS.out (by decide))
      have HB6M : Hid ((Value.slice va q.1.vars.length vc).ownBlock ≠ some b6 ∧ (Value.slice va q.1.vars.length vc).ownBlock ≠ some b5) := Lib.hid ⟨own_ne HOW.out HN6.out (by decide), own_ne HOW.out H57.out (by decide)⟩
      have HOW8 := Lib.hid (owns_ext HOW.out HX8.out)
      gi_wp2
      gi_loopw [41] (fun i wq => ∃ k : Nat, k ≤ q.1.vars.length ∧ i = .int .i64 k ∧ Hid (Chg (Value.slice va q.1.vars.length vc).ownBlock.toList w8 wq ∧ (0 < q.1.vars.length → ∃ g cur, va = some ⟨g, 0, none⟩ ∧ wq.heap[g]? = some (.cells (List.toArray cur) 41 (0, 0)) ∧ q.1.vars.length * 4 ≤ cur.length))) (fun i _ => q.1.vars.length - (intOf i).toNat)
      case atStart => exact ⟨0, Nat.zero_le _, rfl, Lib.hid ⟨Chg.refl _ _, fun h0 => row_blk HOW8.out h0⟩⟩
      case round =>
        rename World => wq
        obtain ⟨k, hk, rfl, HQ⟩ := hrel
        have hbq := HQ.out.1.heap (HX8.out.heap HBS.out) (by simp only [Option.mem_toList]; exact HBSM.out)
        by_cases hkt : k < q.1.vars.length
        · have hki : (k : Int) < (q.1.vars.length : Int) := by omega
          obtain ⟨g, cur, rfl, hg, hgl⟩ := HQ.out.2 (by omega)
          have e9q : wq.cell? ⟨bs, 9, none⟩ = some (.slice (some ⟨g, 0, none⟩) q.1.vars.length vc) := cell_of_heap hbq rfl
          have n9q := heap_lt hbq
          obtain ⟨hst, hst2, hst3⟩ := stF_mid 41 hg (k * 4) [.int .i32 9, .int .i32 0, .int .i32 0, .int .i32 0] (by simp; omega) (by kernel_rfl) (by simp [Value.oneCell'])
          obtain ⟨wz, hwz⟩ : ∃ wz, wq.setCells g (k * 4) [.int .i32 9, .int .i32 0, .int .i32 0, .int .i32 0] = wz := ⟨_, rfl⟩
          rw [hwz] at hst hst2 hst3
          have HQ2 : Hid (Chg (Value.slice (some ⟨g, 0, none⟩) q.1.vars.length vc).ownBlock.toList w8 wz ∧ (0 < q.1.vars.length → ∃ g' cur', (some ⟨g, 0, none⟩ : Option Addr) = some ⟨g', 0, none⟩ ∧ wz.heap[g']? = some (.cells (List.toArray cur') 41 (0, 0)) ∧ q.1.vars.length * 4 ≤ cur'.length)) := Lib.hid ⟨HQ.out.1.trans (hst3.mono (by simp [Value.ownBlock])), fun _ => ⟨g, _, rfl, hst2, by simp; omega⟩⟩
          clear hst2 hst3 hwz hg hbq e9 n8 h8
          gi_wp2
          exact ⟨⟨k + 1, by omega, by go_num, HQ2⟩, by simp [intOf]; omega⟩
        · obtain rfl : k = q.1.vars.length := by omega
          have h6q := HQ.out.1.heap (HX8.out.heap HN6.out) (by simp only [Option.mem_toList]; exact HB6M.out.1)
          have h5q := HQ.out.1.heap (HX8.out.heap H57.out) (by simp only [Option.mem_toList]; exact HB6M.out.2)
          have c6 : wq.cell? ⟨b6, 0, none⟩ = some (.int .i64 j) := cell_of_heap h6q rfl
          have f6 : wq.frozen? ⟨b6, 0, none⟩ = false := free_of_heap h6q
          have c5 : wq.cell? ⟨b5, 0, none⟩ = some (.int .i64 r) := cell_of_heap h5q rfl
          have n6 := heap_lt h6q
          have n5 := heap_lt h5q
          have hne1 : ¬ b5 = b6 := by have := HBL.out; omega
          have hne2 : ¬ b6 = b5 := by omega
          obtain ⟨w9, hw9⟩ : ∃ w9, wq.setCell ⟨b6, 0, none⟩ (.int .i64 ((j : Int) + 1)) = w9 := ⟨_, rfl⟩
          have hset : Chg [b6] wq w9 := by rw [← hw9]; exact (Chg.refl _ _).setCell (p := ⟨b6, 0, none⟩) (by simp) _
          have h69 : w9.heap[b6]? = some (.cells #[.int .i64 ((j : Int) + 1)] 3 (0, 0)) := by rw [← hw9]; exact heap_set h6q
          have hg7 : ∀ m, m ∈ (Value.slice va q.1.vars.length vc).ownBlock.toList → w7.heap.size ≤ m ∧ ∃ o : Obj, wb.heap[m]? = some o ∧ o.isCells = true := fun m hm => by
            simp only [Option.mem_toList] at hm
            obtain ⟨cur, h1, h2⟩ := own_type HOW.out hm
            exact ⟨h2, _, h1, rfl⟩
          have hcb : Chg (b6 :: (Value.slice va q.1.vars.length vc).ownBlock.toList) wb w9 := ((HX8.out.chg _).trans (HQ.out.1.mono (by intro m hm; exact List.mem_cons_of_mem _ hm))).trans (hset.mono (by intro m hm; rw [List.mem_singleton.1 hm]; exact List.mem_cons_self))
          have HFIN : Hid (KeepsFrom w7.heap.size wb w9 ∧ Kept (lS cb lv L) wb w9 ∧ Chg [b6] w7 w9) := Lib.hid ⟨hcb.keeps (fun m hm => by
              rcases List.mem_cons.1 hm with rfl | hm
              · exact .inl HBL.out.2.2.1
              · exact .inr (hg7 m hm).2), hcb.kept (fun m hm hs => by
              have h1 := HSB.out m hs
              have h2 := HBL.out
              rcases List.mem_cons.1 hm with rfl | hm
              · omega
              · have := (hg7 m hm).1; omega), HCH.out.mix hcb (fun m hm => by
              rcases List.mem_cons.1 hm with rfl | hm
              · exact .inl (by simp)
              · exact .inr (hg7 m hm).1)⟩
          have H69 := Lib.hid h69
          have e6 : w9.cell? ⟨b6, 0, none⟩ = some (.int .i64 ((j : Int) + 1)) := cell_of_heap h69 rfl
          have e5 : w9.cell? ⟨b5, 0, none⟩ = some (.int .i64 r) := cell_of_heap (hset.heap h5q (by simp; exact hne1)) rfl
          have m6 := heap_lt h69
          clear hcb hg7 h69 hset h5q h6q hbq e9 n8 h8
          by_cases hr1 : r = 1
          · subst hr1
            by_cases hj1 : j = 1
            · subst hj1
              have hw9' : wq.setCell ⟨b6, 0, none⟩ (.int .i64 2) = w9 := hw9
              gi_wp2
              exact ⟨HFIN.out.1, by first | exact ⟨rfl, rfl, H69.out, HFIN.out.2.2⟩ | exact ⟨rfl, H69.out, HFIN.out.2.2⟩⟩
            · gi_wp2
              exact ⟨HFIN.out.1, HFIN.out.2.1, H69.out, HFIN.out.2.2⟩
          · gi_wp2
            exact ⟨HFIN.out.1, HFIN.out.2.1, H69.out, HFIN.out.2.2⟩
    case done =>
      rintro D W2 hD ⟨hn6, hch⟩ hDW
      have HMK2 := Lib.hid (HM7.out.more hch (by
        intro m hm
        rw [List.mem_singleton.1 hm]
        exact ⟨_, HC6.out, rfl⟩) (by have := HBL.out; omega) hD hDW)
      have hx2 := HX37.out.chgTrans hch (by have := HBL.out; have := HI.out.2.1; simp; omega)
      have c5 : W2.cell? ⟨b5, 0, none⟩ = some (.int .i64 r) := cell_of_heap (hch.heap H5.out (by have := HBL.out; simp; omega)) rfl
      have c6 : W2.cell? ⟨b6, 0, none⟩ = some (.int .i64 L.length) := cell_of_heap hn6 rfl
      have c3 : W2.cell? ⟨b3, 0, none⟩ = some (.slice aM L.length cM) := cell_of_heap (hx2.heap HA.out) rfl
      have n5 := Nat.lt_trans HBL.out.2.1 (heap_lt hn6)
      have n6 := heap_lt hn6
      have n3 := heap_lt (hx2.heap HA.out)
      have HX2 := Lib.hid hx2
      clear hx2 hch hDW hn6 hS7
      go_wp2_with fail
      all_goals first
        | (skip
           have hm1 : (W2.alloc (.cells #[.int .i64 ((r : Int) + 1)] 3)).cell? ⟨W2.heap.size, 0, none⟩ = some (.int .i64 ((r : Int) + 1)) := cell_of_heap (heap_alloc_new _ _) rfl
           have hxz : Ext W2 (W2.alloc (.cells #[.int .i64 ((r : Int) + 1)] 3)) := (Ext.refl _).alloc _
           refine ⟨⟨r + 1, W2.heap.size, _, _, _, _, _, _, _, _, _, _, _, _, _, _, _, _, _, _, _, _, _, _, _, _, _, _, _, _, _, _, _, _, _, _, _, _, _, _, _, _, _, _, _, _, _, _, _, _, _, _, _, _, _, _, _, _, _, _, _, _, _, _, _, _, by omega, HMK2.out.ext hxz, Lib.hid ⟨heap_alloc_new _ _, HX2.out.size, HX2.out.trans hxz⟩, rfl⟩, ?_⟩
           show 2 - (intOf (((W2.alloc (.cells #[.int .i64 ((r : Int) + 1)] 3)).cell? ⟨W2.heap.size, 0, none⟩).getD undef)).toNat < 2 - (intOf ((W.cell? ⟨b5, 0, none⟩).getD undef)).toNat
           rw [hm1, HCW.out]
           simp [intOf]
           try omega)
        | (have h0 : r = 0 := by assumption
           subst h0
           have hm1 : (W2.alloc (.cells #[.int .i64 1] 3)).cell? ⟨W2.heap.size, 0, none⟩ = some (.int .i64 1) := cell_of_heap (heap_alloc_new _ _) rfl
           have hxz : Ext W2 (W2.alloc (.cells #[.int .i64 1] 3)) := (Ext.refl _).alloc _
           refine ⟨⟨0 + 1, W2.heap.size, _, _, _, _, _, _, _, _, _, _, _, _, _, _, _, _, _, _, _, _, _, _, _, _, _, _, _, _, _, _, _, _, _, _, _, _, _, _, _, _, _, _, _, _, _, _, _, _, _, _, _, _, _, _, _, _, _, _, _, _, _, _, _, _, by omega, HMK2.out.ext hxz, Lib.hid ⟨heap_alloc_new _ _, HX2.out.size, HX2.out.trans hxz⟩, rfl⟩, ?_⟩
           show 2 - (intOf (((W2.alloc (.cells #[.int .i64 1] 3)).cell? ⟨W2.heap.size, 0, none⟩).getD undef)).toNat < 2 - (intOf ((W.cell? ⟨b5, 0, none⟩).getD undef)).toNat
           rw [hm1, HCW.out]
           simp [intOf]
           try omega)
    case stop =>
      rintro D c W2 hD ⟨rfl, hr1, hn6, hch⟩ hDW
      have HMK2 := Lib.hid (HM7.out.more hch (by
        intro m hm
        rw [List.mem_singleton.1 hm]
        exact ⟨_, HC6.out, rfl⟩) (by have := HBL.out; omega) hD hDW)
      have hx2 := HX37.out.chgTrans hch (by have := HBL.out; have := HI.out.2.1; simp; omega)
      have c5 : W2.cell? ⟨b5, 0, none⟩ = some (.int .i64 r) := cell_of_heap (hch.heap H5.out (by have := HBL.out; simp; omega)) rfl
      have c6 : W2.cell? ⟨b6, 0, none⟩ = some (.int .i64 2) := cell_of_heap hn6 rfl
      have c3 : W2.cell? ⟨b3, 0, none⟩ = some (.slice aM L.length cM) := cell_of_heap (hx2.heap HA.out) rfl
      have n5 := Nat.lt_trans HBL.out.2.1 (heap_lt hn6)
      have n6 := heap_lt hn6
      have n3 := heap_lt (hx2.heap HA.out)
      have HX2 := Lib.hid hx2
      clear hx2 hch hDW hn6 hS7
      subst hr1
      go_wp2_with fail
      all_goals
        have hm1 : (W2.alloc (.cells #[.int .i64 2] 3)).cell? ⟨W2.heap.size, 0, none⟩ = some (.int .i64 2) := cell_of_heap (heap_alloc_new _ _) rfl
        have hxz : Ext W2 (W2.alloc (.cells #[.int .i64 2] 3)) := (Ext.refl _).alloc _
        refine ⟨⟨1 + 1, W2.heap.size, _, _, _, _, _, _, _, _, _, _, _, _, _, _, _, _, _, _, _, _, _, _, _, _, _, _, _, _, _, _, _, _, _, _, _, _, _, _, _, _, _, _, _, _, _, _, _, _, _, _, _, _, _, _, _, _, _, _, _, _, _, _, _, _, by omega, HMK2.out.ext hxz, Lib.hid ⟨heap_alloc_new _ _, HX2.out.size, HX2.out.trans hxz⟩, rfl⟩, ?_⟩
        show 2 - (intOf (((W2.alloc (.cells #[.int .i64 2] 3)).cell? ⟨W2.heap.size, 0, none⟩).getD undef)).toNat < 2 - (intOf ((W.cell? ⟨b5, 0, none⟩).getD undef)).toNat
        rw [hm1, HCW.out]
        simp [intOf]
        try omega
  · obtain rfl : r = 2 := by omega
    have c4 : W.cell? ⟨b3 + 1, 0, none⟩ = some (.bool false) := cell_of_heap hB' rfl
    have f4 : W.frozen? ⟨b3 + 1, 0, none⟩ = false := free_of_heap hB'
    have n4 := heap_lt hB'
    have hch1 : Chg [b3 + 1] W (W.setCell ⟨b3 + 1, 0, none⟩ (.bool true)) := (Chg.refl _ _).setCell (by simp) _
    have HM2 := Lib.hid (HMK.out.chg hch1 (by simp; exact ⟨_, hB', rfl⟩))
    have HR2 := Lib.hid (heap_set (k := 0) (u := .bool true) hB')
    have HX2 : Hid (Ext w (W.setCell ⟨b3 + 1, 0, none⟩ (.bool true))) := Lib.hid ((HX3.out.trans HI.out.2.2).chgTrans hch1 (by rw [HB3.out]; simp))
    clear hch1 hA' hB'
    go_wp2_with fail
    refine retM HM2.out fun W3 ht => ?_
    have hc2 : W3.cell? ⟨b3 + 1, 0, none⟩ = some (.bool true) := cell_of_heap (ht.cells HR2.out) rfl
    exact ⟨.bool true, by simp [results, go_sem, hc2, asAddr, Try.f17], rfl, HX2.out.turned ht (by rw [HB3.out]; exact Nat.le_refl _)⟩
end
end Go.Proofs.Ytocdkdkiiammfaa
