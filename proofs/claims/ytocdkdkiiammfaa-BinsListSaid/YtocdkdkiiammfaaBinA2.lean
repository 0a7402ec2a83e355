/- The contract of Add. Conditions: each theorem's own premises. -/
import Derived.Test.YtocdkdkiiammfaaBinA
namespace Go.Proofs.Ytocdkdkiiammfaa
open Go.RowKit
set_option linter.unusedVariables false
set_option maxRecDepth 100000
set_option linter.unusedSimpArgs false
attribute [local go_sem ↓] Ld_Sk St_Sk

theorem take_map {α β : Type} (f : α → β) (L : List α) (k : Nat) {q : α} (h : L[k]? = some q) : (L.take (k + 1)).map f = (L.take k).map f ++ [f q] := by
  rw [List.take_add_one, h, List.map_append]
  rfl
/-- A stroke is loaded. -/
theorem sk_get {w : World} {b off cap : Nat} {L : List (Sk × Value)} (h : SksAt w (.slice (some ⟨b, off, none⟩) L.length cap) L) {k : Nat} {q : Sk × Value} (hq : L[k]? = some q) :
    (@Classical.epsilon _ neF (LdF 46 (.pointer (some ⟨b, off + k * 14, none⟩)))).run Try.prog w = .ok (.agg (skC q).toArray) w := by
  have hk := (List.getElem?_eq_some_iff.1 hq).1
  obtain ⟨b', off', he, hb, hcell⟩ := h.1.pos (by omega)
  simp only [Option.some.injEq, Addr.mk.injEq, and_true] at he
  obtain ⟨rfl, rfl⟩ := he
  refine ldF_ok (cs := skC q) _ (fun j u hu => ?_) Try.underlying46 rfl info_sk
  have hj : j < 14 := by have := (List.getElem?_eq_some_iff.1 hu).1; rwa [sk_len] at this
  have := hcell (k * 14 + j) u ((sks_at L k q hq j hj).trans hu)
  rwa [← Nat.add_assoc] at this
/-- A stroke's slice is a slice. -/
theorem sk_slice {w : World} {q : Sk × Value} (h : SlC w q.2 4 q.1.vars.length (v4s q.1.vars)) : ∃ va vc, q.2 = .slice va q.1.vars.length vc := by
  obtain ⟨_, va, vc, e, _⟩ := h
  exact ⟨va, vc, e⟩
theorem newStroke (w : World) (q : Sk × Value) (h : q.2.oneCell' = true) :
    ∃ w', (@Classical.epsilon _ neG (StF 46 (.pointer (some ⟨w.heap.size, 0, none⟩)) (.agg (skC q).toArray))).run Try.prog (w.alloc (.cells #[.int .i64 0, .int .i64 0, .int .i32 0, .int .i32 0, .bool false, .int .i32 0, .int .i32 0, .int .i32 0, .int .i32 0, .slice none 0 0, .int .i32 0, .int .i32 0, .int .i32 0, .int .i32 0] 46)) = .ok () w' ∧ w'.heap[w.heap.size]? = some (.cells (skC q).toArray 46 (0, 0)) ∧ Ext w w' :=
  newSk w (skC q) rfl (by simpa [skC, Value.oneCell'] using h)
theorem sk_loadB {w : World} {b : Nat} {q : Sk × Value} (h : w.heap[b]? = some (.cells (skC q).toArray 46 (0, 0))) : (@Classical.epsilon _ neF (LdF 46 (.pointer (some ⟨b, 0, none⟩)))).run Try.prog w = .ok (.agg (skC q).toArray) w :=
  sk_load (off := 0) (cs := skC q) h (by rw [List.drop_zero, List.take_of_length_le (by rw [sk_len]; omega)]) rfl
theorem tl_getD (T : List Tl) (t : Nat) {x : Tl} (h : T[t]? = some x) : (skel T).getD t [] = x.2.map (·.1) := by
  unfold skel
  rw [List.getD_eq_getElem?_getD, List.getElem?_map, h]
  rfl
theorem tile_lt {W H : Nat} {x y : Int} (h : inB W H x y = true) (hW : W ≤ 64) : 0 ≤ tlV W x y ∧ tlV W x y < ((acr W * acr H : Nat) : Int) := by
  obtain ⟨h1, h2, h3, h4⟩ := inB_true h
  have h5 : 0 ≤ tlV W x y := by
    unfold tlV
    have : 0 ≤ y / 16 * ((acr W : Nat) : Int) := Int.mul_nonneg (by omega) (by omega)
    omega
  refine ⟨h5, ?_⟩
  unfold tlV
  obtain ⟨a, ha⟩ : ∃ a : Nat, x / 16 = a := ⟨(x / 16).toNat, by omega⟩
  obtain ⟨b, hb⟩ : ∃ b : Nat, y / 16 = b := ⟨(y / 16).toNat, by omega⟩
  rw [ha, hb]
  have hA : a < acr W := by unfold acr; omega
  have hB : b < acr H := by unfold acr; omega
  have := Nat.mul_le_mul_right (acr W) (show b + 1 ≤ acr H by omega)
  rw [Nat.succ_mul, Nat.mul_comm (acr H)] at this
  rw [← Int.natCast_mul, ← Int.natCast_add]
  omega
theorem Chg.mix {M N : List Nat} {a b c : World} (h : Chg M a b) (k : Chg N b c) (hN : ∀ i, i ∈ N → i ∈ M ∨ a.heap.size ≤ i) : Chg M a c :=
  ⟨k.os.trans h.os, k.tape.trans h.tape, k.output.trans h.output, Nat.le_trans h.size k.size, fun i hi hm => (k.block i (Nat.lt_of_lt_of_le hi h.size) (fun hn => by
    rcases hN i hn with h1 | h1
    · exact hm h1
    · omega)).trans (h.block i hi hm)⟩
/-- What holds between two strokes that are added. -/
structure AInv (base : Nat) (w wq : World) (p g W H : Nat) (T T2 : List Tl) (n : Nat) (l : List Sk) : Prop where
  b : BinAt base wq p g W H T2 n
  s : skel T2 = l.foldl (addS W H) (skel T)
  c : Chg (binM p g T) w wq
  o : ∀ x ∈ T2, ∀ k, x.1.ownBlock = some k → (∃ y ∈ T, y.1.ownBlock = some k) ∨ w.heap.size ≤ k
  z : ∀ x ∈ T2, x.2.length ≤ 1000 + l.length
  v : ∀ x ∈ T2, ∀ q ∈ x.2, ∀ k, q.2.ownBlock = some k → (∃ y ∈ T, ∃ r ∈ y.2, r.2.ownBlock = some k) ∨ w.heap.size ≤ k
theorem AInv.mem {base : Nat} {w wq : World} {p g W H : Nat} {T T2 : List Tl} {n : Nat} {l : List Sk} (h : AInv base w wq p g W H T T2 n l) : ∀ i, i ∈ binM p g T2 → i ∈ binM p g T ∨ w.heap.size ≤ i := fun i hi => by
  unfold binM at hi ⊢
  simp only [List.mem_cons, List.mem_filterMap] at hi ⊢
  rcases hi with rfl | rfl | ⟨x, hx, hk⟩
  · exact .inl (.inl rfl)
  · exact .inl (.inr (.inl rfl))
  · rcases h.o x hx i hk with ⟨y, hy, h2⟩ | h2
    · exact .inl (.inr (.inr ⟨y, hy, h2⟩))
    · exact .inr h2
/-- A stroke that lies nowhere. -/
theorem AInv.skip {base : Nat} {w wq w' : World} {p g W H : Nat} {T T2 : List Tl} {n : Nat} {l : List Sk} (h : AInv base w wq p g W H T T2 n l) (x : Ext wq w') (s : Sk) (hs : inB W H s.x s.y = false) : AInv base w w' p g W H T T2 n (l ++ [s]) :=
  ⟨h.b.ext x, by rw [List.foldl_append, ← h.s]; show _ = addS W H (skel T2) s; unfold addS; rw [hs]; rfl, h.c.ext2 x, h.o, fun y hy => by have := h.z y hy; rw [List.length_append]; omega, h.v⟩
theorem AInv.put {base : Nat} {w wq w7 w8 : World} {p g W H t : Nat} {T T2 : List Tl} {n : Nat} {l : List Sk} (h : AInv base w wq p g W H T T2 n l) {x : Tl} (hx : T2[t]? = some x) (hx7 : Ext wq w7) {s : Sk} (hs : inB W H s.x s.y = true) (ht : (tlV W s.x s.y) = t) {vs : Value} (hq : w7.ownsRow base 41 4 vs s.vars.length (v4s s.vars)) (hvs : ∀ k, vs.ownBlock = some k → w.heap.size ≤ k)
    {gg cap : Nat} (hown : w8.ownsRow base 46 14 (.slice (some ⟨gg, 0, none⟩) (x.2.length + 1) cap) (x.2.length + 1) (x.2.flatMap skC ++ skC (s, vs))) (hgrow : w7.grownBy w8 x.1.ownBlock) (hat : x.1.ownBlock = some gg ∨ gg = w7.heap.size) :
    AInv base w (w8.setCell ⟨g, t, none⟩ (.slice (some ⟨gg, 0, none⟩) (x.2.length + 1) cap)) p g W H T (T2.set t (.slice (some ⟨gg, 0, none⟩) (x.2.length + 1) cap, x.2 ++ [(s, vs)])) n (l ++ [s]) := by
  obtain ⟨h1, h2⟩ := binAt_app h.b hx hx7 (q := (s, vs)) hq hown hgrow hat
  have htl := (List.getElem?_eq_some_iff.1 hx).1
  refine ⟨h1, ?_, h.c.mix h2 h.mem, ?_, ?_, ?_⟩
  · rw [List.foldl_append, ← h.s]
    show _ = addS W H (skel T2) s
    unfold addS
    rw [hs, if_pos rfl, ht, Int.toNat_natCast, tl_getD T2 t hx]
    unfold skel
    rw [List.map_set, List.map_append]
    rfl
  · intro y hy k hk
    rcases List.mem_or_eq_of_mem_set hy with h3 | rfl
    · exact h.o y h3 k hk
    · have hk : some gg = some k := hk
      cases hk
      rcases hat with h4 | h4
      · exact h.o x (List.mem_of_getElem? hx) gg h4
      · have := hx7.size
        have := h.c.size
        exact .inr (by omega)
  · intro y hy
    rcases List.mem_or_eq_of_mem_set hy with h3 | rfl
    · have := h.z y h3; rw [List.length_append]; omega
    · have := h.z x (List.mem_of_getElem? hx)
      rw [List.length_append, List.length_append]
      show x.2.length + 1 ≤ 1000 + (l.length + 1)
      omega
  · intro y hy q hqy k hk
    rcases List.mem_or_eq_of_mem_set hy with h3 | rfl
    · exact h.v y h3 q hqy k hk
    · rcases List.mem_append.1 hqy with h4 | h4
      · exact h.v x (List.mem_of_getElem? hx) q h4 k hk
      · rw [List.mem_singleton.1 h4] at hk
        exact .inr (hvs k hk)
/-- A block of another type stays where a row of strokes grows. -/
theorem grow_stay {base n : Nat} {W w8 : World} {v : Value} {xs : List Value} (h : W.ownsRow base 46 14 v n xs) (hgrow : W.grownBy w8 v.ownBlock) {k : Nat} {cs : Array Value} {e : TypeId} (hk : W.heap[k]? = some (.cells cs e (0, 0))) (he : e ≠ 46) : w8.heap[k]? = some (.cells cs e (0, 0)) :=
  (hgrow.block k (heap_lt hk) (fun hb => own_ne h hk (fun h => he h.symm) hb.symm)).trans hk
set_option maxHeartbeats 8000000 in
theorem add_any (base : Nat) (p g W H : Nat) (T : List Tl) (n : Nat) (v : Value) (L : List (Sk × Value)) (w : World) (hb : BinAt base w p g W H T n) (hW1 : W ≤ 64) (hH1 : H ≤ 64) (hL : SksAt w v L) (hvl : ∀ q ∈ L, q.1.vars.length ≤ 1000) (hll : L.length ≤ 1000)
    (hdis : ∀ k, (v.ownBlock = some k ∨ ∃ q ∈ L, q.2.ownBlock = some k) → k ∉ binM p g T) (hn : n + L.length ≤ 65536) (hT : ∀ x ∈ T, x.2.length ≤ 1000) :
    Calls Try.prog 13 #[.pointer (some ⟨p, 0, none⟩), v] w fun e w' => e = .returned (.int .i64 0) ∧ ∃ T', BinAt base w' p g W H T' ((n + cntS W H (L.map (·.1)) : Nat) : Int) ∧ skel T' = (L.map (·.1)).foldl (addS W H) (skel T) ∧ Chg (binM p g T) w w' ∧ (∀ x ∈ T', ∀ k, x.1.ownBlock = some k → (∃ y ∈ T, y.1.ownBlock = some k) ∨ w.heap.size ≤ k) ∧ (∀ x ∈ T', ∀ q ∈ x.2, ∀ k, q.2.ownBlock = some k → (∃ y ∈ T, ∃ r ∈ y.2, r.2.ownBlock = some k) ∨ w.heap.size ≤ k) ∧ (∀ x ∈ T', x.2.length ≤ 1000 + L.length) := by
  obtain ⟨i0, hi, hz0, hz1, hz2⟩ := info_parts info_sk3
  have HB := Lib.hid hb
  have HL := Lib.hid hL
  have HVL := Lib.hid hvl
  have HD := Lib.hid hdis
  have HT := Lib.hid hT
  have HW := Lib.hid (And.intro hW1 hH1)
  obtain ⟨_, av, cap, rfl, hln, hlc, _, _⟩ := hL.1
  have hcm : (L.length : Int) ≤ 9223372036854775807 := by omega
  clear hb hL hvl hdis hT hW1 hH1 hln hlc
  go_enter Try.func13, Try.ntmps13
  go_wp2
  go_step3
  go_wp2
  go_loopw [5, 18] (fun m i wr => ∃ k : Nat, k ≤ L.length ∧ i = .int .i64 k ∧ m = .int .i64 (cntS W H ((L.take k).map (·.1)) : Nat) ∧ Hid (Ext w wr)) (fun _ i _ => L.length - (intOf i).toNat)
  case atStart => exact ⟨0, Nat.zero_le _, rfl, rfl, Lib.hid (Ext.refl _)⟩
  case round =>
    rename World => wr
    obtain ⟨k, hk, rfl, rfl, HX⟩ := hrel
    by_cases hlt : k < L.length
    · have hki : (k : Int) < (L.length : Int) := by omega
      obtain ⟨q, hq⟩ : ∃ q, L[k]? = some q := ⟨_, List.getElem?_eq_getElem hlt⟩
      have HLR := Lib.hid (HL.out.ext HX.out)
      obtain ⟨b, off, rfl, _, _⟩ := HLR.out.1.pos (by omega)
      have hld := sk_get HLR.out hq
      obtain ⟨va, vc, he⟩ := sk_slice (HLR.out.2 q (List.mem_of_getElem? hq))
      obtain ⟨w6, hst6, h6, hx6⟩ := newStroke wr q (by rw [he]; cases va <;> rfl)
      have HX6 := Lib.hid (HX.out.trans hx6)
      have e0 : w6.cell? ⟨wr.heap.size, 0, none⟩ = some (.int .i64 q.1.x) := cell_of_heap h6 rfl
      have e1 : w6.cell? ⟨wr.heap.size, 1, none⟩ = some (.int .i64 q.1.y) := cell_of_heap h6 rfl
      have n6 := heap_lt h6
      have HTL := Lib.hid (tile_any p W H _ _ q.1.x q.1.y w6 (HB.out.ext HX6.out).b HW.out.1 HW.out.2)
      have hcs : cntS W H ((L.take (k + 1)).map (·.1)) = cntS W H ((L.take k).map (·.1)) + (if inB W H q.1.x q.1.y then 1 else 0) := by rw [take_map _ _ _ hq, cntS_snoc]
      have hcb : cntS W H ((L.take k).map (·.1)) ≤ L.length := by have := cntS_le W H ((L.take k).map (·.1)); rw [List.length_map, List.length_take] at this; omega
      obtain ⟨C, hC⟩ : ∃ C, cntS W H ((L.take k).map (·.1)) = C := ⟨_, rfl⟩
      rw [hC] at hcs hcb
      rw [hC]
      have HCS := Lib.hid hcs
      clear h6 hx6 hq he hcs hC
      cases hin : inB W H q.1.x q.1.y
      · rw [hin] at HTL HCS
        have HTL : Hid (Calls Try.prog 8 #[.pointer (some ⟨p, 0, none⟩), .int .i64 q.1.x, .int .i64 q.1.y] w6 fun e w' => e = .returned (.tuple #[.int .i64 0, .int .i64 2]) ∧ w6 = w') := HTL
        clear hin
        go_wp2_with (go_at_call 8; refine HTL.out.mono ?_; rintro _ _ ⟨rfl, rfl⟩)
        go_roundw
        case rel => exact ⟨k + 1, by omega, by go_num, by rw [HCS.out]; rfl, HX6⟩
        case measure => simp [intOf]; omega
      · rw [hin] at HTL HCS
        obtain ⟨t, ht⟩ : ∃ t, tlV W q.1.x q.1.y = t := ⟨_, rfl⟩
        rw [ht] at HTL
        have HTL : Hid (Calls Try.prog 8 #[.pointer (some ⟨p, 0, none⟩), .int .i64 q.1.x, .int .i64 q.1.y] w6 fun e w' => e = .returned (.tuple #[.int .i64 t, .int .i64 0]) ∧ w6 = w') := HTL
        clear hin ht
        go_wp2_with (go_at_call 8; refine HTL.out.mono ?_; rintro _ _ ⟨rfl, rfl⟩)
        go_roundw
        case rel => exact ⟨k + 1, by omega, by go_num, by rw [HCS.out]; exact (by go_num), HX6⟩
        case measure => simp [intOf]; omega
    · obtain rfl : k = L.length := by omega
      rw [List.take_length]
      have hcb : cntS W H (L.map (·.1)) ≤ L.length := by have := cntS_le W H (L.map (·.1)); rwa [List.length_map] at this
      obtain ⟨C, hC⟩ : ∃ C, cntS W H (L.map (·.1)) = C := ⟨_, rfl⟩
      rw [hC] at hcb
      rw [hC]
      have HC := Lib.hid hC
      have HBR := Lib.hid (HB.out.ext HX.out)
      have c3 : wr.cell? ⟨p, 3, none⟩ = some (.int .i64 n) := cell_of_heap HBR.out.b rfl
      have np := heap_lt HBR.out.b
      have g1 : ¬ ((65536 : Int) - (n : Int) < (C : Int)) := by omega
      clear hC
      go_wp2_with fail
      go_step3
      go_wp2_with fail
      go_loopw [47] (fun i wq => ∃ (k : Nat) (T2 : List Tl), k ≤ L.length ∧ i = .int .i64 k ∧ Hid (AInv base w wq p g W H T T2 n ((L.take k).map (·.1)))) (fun i _ => L.length - (intOf i).toNat)
      case atStart => exact ⟨0, T, Nat.zero_le _, rfl, Lib.hid ⟨HBR.out, rfl, HX.out.chg _, fun x hx k hk => .inl ⟨x, hx, hk⟩, fun x hx => by have := HT.out x hx; omega, fun x hx q hq k hk => .inl ⟨x, hx, q, hq, hk⟩⟩⟩
      case round =>
        rename World => wq
        obtain ⟨k, T2, hk, rfl, HI⟩ := hrel
        by_cases hlt : k < L.length
        · have hki : (k : Int) < (L.length : Int) := by omega
          obtain ⟨q, hq⟩ : ∃ q, L[k]? = some q := ⟨_, List.getElem?_eq_getElem hlt⟩
          have HLR : Hid (SksAt wq (.slice av L.length cap) L) := Lib.hid ⟨HL.out.1.chg HI.out.c (fun b hb _ => HD.out b (.inl hb)), fun q hq => (HL.out.2 q hq).chg HI.out.c (fun b hb _ => HD.out b (.inr ⟨q, hq, hb⟩))⟩
          obtain ⟨b, off, rfl, _, _⟩ := HLR.out.1.pos (by omega)
          have hld := sk_get HLR.out hq
          have hqv := HLR.out.2 q (List.mem_of_getElem? hq)
          have HVB := Lib.hid (HVL.out q (List.mem_of_getElem? hq))
          obtain ⟨va, vc, he⟩ := sk_slice hqv
          obtain ⟨w6, hst6, h6, hx6⟩ := newStroke wq q (by rw [he]; cases va <;> rfl)
          have HX6 := Lib.hid hx6
          have H6 := Lib.hid h6
          have HQV := Lib.hid (hqv.ext hx6)
          have HTK := Lib.hid (take_map (fun a : Sk × Value => a.1) L k hq)
          have e0 : w6.cell? ⟨wq.heap.size, 0, none⟩ = some (.int .i64 q.1.x) := cell_of_heap h6 rfl
          have e1 : w6.cell? ⟨wq.heap.size, 1, none⟩ = some (.int .i64 q.1.y) := cell_of_heap h6 rfl
          have n6 := heap_lt h6
          have HTL := Lib.hid (tile_any p W H _ _ q.1.x q.1.y w6 (HI.out.b.ext hx6).b HW.out.1 HW.out.2)
          have HHE := Lib.hid he
          clear h6 hx6 hq he hqv
          cases hin : inB W H q.1.x q.1.y
          · have HIN := Lib.hid hin
            rw [hin] at HTL
            have HTL : Hid (Calls Try.prog 8 #[.pointer (some ⟨p, 0, none⟩), .int .i64 q.1.x, .int .i64 q.1.y] w6 fun e w' => e = .returned (.tuple #[.int .i64 0, .int .i64 2]) ∧ w6 = w') := HTL
            clear hin
            go_wp2_with (go_at_call 8; refine HTL.out.mono ?_; rintro _ _ ⟨rfl, rfl⟩)
            go_roundw
            case rel => exact ⟨k + 1, T2, by omega, by go_num, Lib.hid (by rw [HTK.out]; exact HI.out.skip HX6.out q.1 HIN.out)⟩
            case measure => simp [intOf]; omega
          · have HIN := Lib.hid hin
            obtain ⟨t0, t1⟩ := tile_lt hin HW.out.1
            rw [← HI.out.b.l] at t1
            obtain ⟨t, ht⟩ : ∃ t : Nat, tlV W q.1.x q.1.y = t := ⟨(tlV W q.1.x q.1.y).toNat, by omega⟩
            rw [hin, ht] at HTL
            have HTT := Lib.hid ht
            rw [ht] at t1
            have HTL : Hid (Calls Try.prog 8 #[.pointer (some ⟨p, 0, none⟩), .int .i64 q.1.x, .int .i64 q.1.y] w6 fun e w' => e = .returned (.tuple #[.int .i64 t, .int .i64 0]) ∧ w6 = w') := HTL
            obtain ⟨x, hx⟩ : ∃ x, T2[t]? = some x := ⟨_, List.getElem?_eq_getElem (by omega)⟩
            have HXT := Lib.hid hx
            have e9 : w6.cell? ⟨wq.heap.size, 9, none⟩ = some q.2 := cell_of_heap H6.out rfl
            have f9 : w6.frozen? ⟨wq.heap.size, 9, none⟩ = false := free_of_heap H6.out
            have HCV := Lib.hid (clonev_any q.2 q.1.vars w6 HQV.out HVB.out)
            clear hin ht t0 hx
            go_upto_region 19 with (first | (go_at_call 8; refine HTL.out.mono ?_; rintro _ _ ⟨rfl, rfl⟩) | (go_at_call 21; refine HCV.out.mono ?_; rintro _ w7 ⟨v7, rfl, hv7, hx7⟩; obtain ⟨a7, c7, rfl⟩ := ownsB_slice hv7; have h7 := hx7.heap H6.out; have e9' : w7.cell? ⟨wq.heap.size, 9, none⟩ = some q.2 := cell_of_heap h7 rfl; have f9' : w7.frozen? ⟨wq.heap.size, 9, none⟩ = false := free_of_heap h7; have n7 := heap_lt h7))
            have h8 : (w7.setCell ⟨wq.heap.size, 9, none⟩ (.slice a7 q.1.vars.length c7)).heap[wq.heap.size]? = some (.cells (skC (q.1, .slice a7 q.1.vars.length c7)).toArray 46 (0, 0)) := heap_set (k := 9) (u := .slice a7 q.1.vars.length c7) h7
            have hv8 := owns_chg (M := [wq.heap.size]) hv7 ((Chg.refl _ _).setCell (p := ⟨wq.heap.size, 9, none⟩) (by simp) (.slice a7 q.1.vars.length c7)) (fun b hb hm => by
              have := List.mem_singleton.1 hm
              subst this
              exact own_ne hv7 h7 (by decide) hb)
            have hx8 : Ext wq (w7.setCell ⟨wq.heap.size, 9, none⟩ (.slice a7 q.1.vars.length c7)) := (HX6.out.trans hx7).setCell (Nat.le_refl _) _
            obtain ⟨w8, hw8⟩ : ∃ w8, w7.setCell ⟨wq.heap.size, 9, none⟩ (.slice a7 q.1.vars.length c7) = w8 := ⟨_, rfl⟩
            rw [hw8] at h8 hv8 hx8
            rw [hw8]
            have HX8 := Lib.hid hx8
            have HVB8 : Hid (∀ k, (Value.slice a7 q.1.vars.length c7).ownBlock = some k → w.heap.size ≤ k) := Lib.hid (fun k hk => by have h1 := owns_base hv8 k hk; have h2 := HI.out.c.size; have h3 := HX6.out.size; omega)
            have HV8 := Lib.hid (owns_mono hv8 (Nat.le_trans HI.out.b.h1 HX6.out.size))
            have HB8 := Lib.hid (HI.out.b.ext hx8)
            have c2 : w8.cell? ⟨p, 2, none⟩ = some (.slice (some ⟨g, 0, none⟩) T2.length T2.length) := cell_of_heap HB8.out.b rfl
            have cg : w8.cell? ⟨g, t, none⟩ = some x.1 := cell_of_heap HB8.out.r (by rw [List.getElem?_toArray, List.getElem?_map, HXT.out]; rfl)
            have hl7 : (@Classical.epsilon _ neF (LdF 46 (.pointer (some ⟨wq.heap.size, 0, none⟩)))).run Try.prog w8 = .ok (.agg #[.int .i64 q.1.x, .int .i64 q.1.y, .int .i32 q.1.z, .int .i32 q.1.iw, .bool q.1.front, .int .i32 q.1.pt.a, .int .i32 q.1.pt.b, .int .i32 q.1.pt.c, .int .i32 q.1.pt.d, .slice a7 q.1.vars.length c7, .int .i32 q.1.col.a, .int .i32 q.1.col.b, .int .i32 q.1.col.c, .int .i32 q.1.col.d]) w8 := sk_loadB h8
            have hl8 : (@Classical.epsilon _ neF (LdF 46 (.pointer (some ⟨wq.heap.size, 0, none⟩)))).run Try.prog w8.drew = .ok (.agg #[.int .i64 q.1.x, .int .i64 q.1.y, .int .i32 q.1.z, .int .i32 q.1.iw, .bool q.1.front, .int .i32 q.1.pt.a, .int .i32 q.1.pt.b, .int .i32 q.1.pt.c, .int .i32 q.1.pt.d, .slice a7 q.1.vars.length c7, .int .i32 q.1.col.a, .int .i32 q.1.col.b, .int .i32 q.1.col.c, .int .i32 q.1.col.d]) w8.drew := sk_loadB (show w8.drew.heap[wq.heap.size]? = _ from h8)
            have n8 := heap_lt h8
            have ng := heap_lt HB8.out.r
            have np := heap_lt HB8.out.b
            have HRW := Lib.hid (HB8.out.t t x HXT.out).1
            have hx14 : x.2.length ≤ 2000 := by have := HI.out.z x (List.mem_of_getElem? HXT.out); rw [List.length_map, List.length_take] at this; omega
            have b1 : base ≤ w8.heap.size := HB8.out.h1
            have k0 : (0 : Int) ≤ (t : Int) := by omega
            have H8 := Lib.hid h8
            have HONE : Hid (∀ u ∈ skC (q.1, .slice a7 q.1.vars.length c7), u.oneCell' = true) := Lib.hid (by intro u hu; simp [skC] at hu; rcases hu with rfl | rfl | rfl | rfl | rfl | rfl | rfl | rfl | rfl | rfl | rfl | rfl | rfl | rfl <;> rfl)
            clear h8 hv8 hx8 hw8 hv7 hx7 h7 n7 e9 e9' f9 f9' e0 e1 n6 hst6 hld HTL HCV HQV
            refine wp_region_noPanic ?_
            go_region_law
              ((refine step_append_lies _ (by rfl) _ _ _ (by rfl) base 46 i0 (.agg #[Value.int .i64 0, .int .i64 0, .int .i32 0, .int .i32 0, .bool false, .int .i32 0, .int .i32 0, .int .i32 0, .int .i32 0, .slice none 0 0, .int .i32 0, .int .i32 0, .int .i32 0, .int .i32 0]) 14 88 Try.underlying34 hi hz0 hz1 hz2 (by rfl) (by decide) x.1 x.2.length (x.2.flatMap skC) (by rfl) (owns_ext HRW.out (by first | exact (Ext.refl _).alloc _ | exact ((Ext.refl _).alloc _).drew | exact ((Ext.refl _).drew.alloc _) | exact ((Ext.refl _).drew.alloc _).drew)) ⟨w8.heap.size, 0, none⟩ 1 1 (skC (q.1, .slice a7 q.1.vars.length c7)) (by rfl) (by rfl) (World.news_of_block (heap_alloc_new _ _)) HONE.out (by decide) (by unfold maxLen; omega) (by omega) (by simp; omega) _ rfl ?_; intro gg cap2 w9 hown9 hgrow9 hat9 hlt9; have hw9 := HI.out.put HXT.out (HX8.out.trans (by first | exact (Ext.refl _).alloc _ | exact ((Ext.refl _).alloc _).drew | exact ((Ext.refl _).drew.alloc _) | exact ((Ext.refl _).drew.alloc _).drew)) HIN.out HTT.out (owns_ext HV8.out (by first | exact (Ext.refl _).alloc _ | exact ((Ext.refl _).alloc _).drew | exact ((Ext.refl _).drew.alloc _) | exact ((Ext.refl _).drew.alloc _).drew)) HVB8.out hown9 hgrow9 hat9; have yr := grow_stay (owns_ext HRW.out (by first | exact (Ext.refl _).alloc _ | exact ((Ext.refl _).alloc _).drew | exact ((Ext.refl _).drew.alloc _) | exact ((Ext.refl _).drew.alloc _).drew)) hgrow9 (Ext.heap (w := w8) (by first | exact (Ext.refl _).alloc _ | exact ((Ext.refl _).alloc _).drew | exact ((Ext.refl _).drew.alloc _) | exact ((Ext.refl _).drew.alloc _).drew) HB8.out.r) (by decide); have yb := grow_stay (owns_ext HRW.out (by first | exact (Ext.refl _).alloc _ | exact ((Ext.refl _).alloc _).drew | exact ((Ext.refl _).drew.alloc _) | exact ((Ext.refl _).drew.alloc _).drew)) hgrow9 (Ext.heap (w := w8) (by first | exact (Ext.refl _).alloc _ | exact ((Ext.refl _).alloc _).drew | exact ((Ext.refl _).drew.alloc _) | exact ((Ext.refl _).drew.alloc _).drew) HB8.out.b) (by decide); have y1 : w9.cell? ⟨g, t, none⟩ = some x.1 := cell_of_heap yr (by rw [List.getElem?_toArray, List.getElem?_map, HXT.out]; rfl); have y2 : w9.frozen? ⟨g, t, none⟩ = false := free_of_heap yr; have y3 := heap_lt yr; have y4 : w9.cell? ⟨p, 2, none⟩ = some (.slice (some ⟨g, 0, none⟩) T2.length T2.length) := cell_of_heap yb rfl; have y5 := heap_lt yb; have HW9 := Lib.hid hw9; clear hw9 yr yb hown9 hgrow9 hat9))
            all_goals refine NoPanic.normal ?_
            all_goals
              clear y1 y2 y3 y4 y5 c2 cg hl7 hl8
              go_wp2_with fail
              go_roundw
              case rel => exact ⟨k + 1, _, by omega, by go_num, Lib.hid (by rw [HTK.out]; exact HW9.out)⟩
              case measure => simp [intOf]; omega
        · obtain rfl : k = L.length := by omega
          have c3 : wq.cell? ⟨p, 3, none⟩ = some (.int .i64 n) := cell_of_heap HI.out.b.b rfl
          have f3 : wq.frozen? ⟨p, 3, none⟩ = false := free_of_heap HI.out.b.b
          have np3 := heap_lt HI.out.b.b
          have h9 := Lib.hid (heap_set (k := 3) (u := .int .i64 ((n : Int) + (C : Int))) HI.out.b.b)
          have hc9 : Chg [p] wq (wq.setCell ⟨p, 3, none⟩ (.int .i64 ((n : Int) + (C : Int)))) := (Chg.refl _ _).setCell (p := ⟨p, 3, none⟩) (by simp) _
          have HC9 := Lib.hid hc9
          clear hc9
          go_wp2_with fail
          simp only [Exit.noGoto]
          go_ret
          obtain ⟨a1, a2, a3, a4, a5, a6⟩ := HI.out
          rw [List.take_length] at a2 a5
          rw [List.length_map] at a5
          have ty : ∀ m ∈ [p], ∃ cs e, wq.heap[m]? = some (.cells cs e (0, 0)) ∧ e ≠ 46 ∧ e ≠ 41 := fun m hm => by
            obtain rfl := List.mem_singleton.1 hm
            exact ⟨_, _, a1.b, by decide, by decide⟩
          refine ⟨rfl, T2, ⟨?_, HC9.out.heap a1.r (by simp; exact fun e => a1.ne e.symm), fun i y hy => sks_chg (a1.t i y hy) HC9.out ty, a1.d, a1.l, Nat.le_trans a1.h1 HC9.out.size, a1.h2, a1.h3⟩, a2, a3.trans (HC9.out.mono (by simp [binM])), a4, a6, a5⟩
          rw [HC.out, Int.natCast_add]
          exact h9.out
end Go.Proofs.Ytocdkdkiiammfaa
