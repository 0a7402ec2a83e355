/- Equality of colours and of triples; the wake. Conditions: each theorem's own premises. -/
import Derived.Test.YtgbcngmciabpkaaFet11
namespace Go.Proofs.Ytgbcngmciabpkaa
open Go.RowKit Go.ChangeShapes
set_option linter.unusedVariables false

/-- What '==' says of two colours. -/
theorem eq_vec (a0 a1 a2 a3 b0 b1 b2 b3 : Int) (w : World) : (Op.equalIn 10000 29 (.agg #[.int .i32 a0, .int .i32 a1, .int .i32 a2, .int .i32 a3]) (.agg #[.int .i32 b0, .int .i32 b1, .int .i32 b2, .int .i32 b3])).run Try.prog w = .ok (a0 == b0 && (a1 == b1 && (a2 == b2 && a3 == b3))) w := by
  have u3 := Try.underlying27
  have a3' := Try.isAgg27
  have z3 := Try.sizeOf27
  rw [show (10000 : Nat) = 9999 + 1 from rfl, Op.equalIn]
  simp only [Sem.run_bind, run_underlying Try.underlying29, Result.andThen_ok]
  simp only [Std.Legacy.Range.forIn_eq_forIn_range', Std.Legacy.Range.size, Nat.sub_zero, Nat.add_sub_cancel, Nat.div_one, List.range'_succ, List.range'_zero, List.forIn_cons, List.forIn_nil]
  go_simp
  by_cases h1 : a0 = b0 <;> by_cases h2 : a1 = b1 <;> by_cases h3 : a2 = b2 <;> by_cases h4 : a3 = b3 <;> simp [h1, h2, h3, h4]
theorem eq_tri (a0 a1 a2 b0 b1 b2 : Int) (w : World) : (Op.equalIn 10000 49 (.agg #[.int .i64 a0, .int .i64 a1, .int .i64 a2]) (.agg #[.int .i64 b0, .int .i64 b1, .int .i64 b2])).run Try.prog w = .ok (a0 == b0 && (a1 == b1 && a2 == b2)) w := by
  have u3 := Try.underlying3
  have a3' := Try.isAgg3
  have z3 := Try.sizeOf3
  rw [show (10000 : Nat) = 9999 + 1 from rfl, Op.equalIn]
  simp only [Sem.run_bind, run_underlying Try.underlying49, Result.andThen_ok]
  simp only [Std.Legacy.Range.forIn_eq_forIn_range', Std.Legacy.Range.size, Nat.sub_zero, Nat.add_sub_cancel, Nat.div_one, List.range'_succ, List.range'_zero, List.forIn_cons, List.forIn_nil]
  go_simp
  by_cases h1 : a0 = b0 <;> by_cases h2 : a1 = b1 <;> by_cases h3 : a2 = b2 <;> simp [h1, h2, h3]
theorem Ints.madeT {w : World} (k : IntKind) (T : TypeId) (zs : List Int) (n : Nat) (hn : zs.length = n) (hm : n ≤ maxLen) (hz : ∀ z ∈ zs, (Lit.int k z).wf = true) : Ints k (w.alloc (.cells (zs.map (Value.int k)).toArray T)) (.slice (some ⟨w.heap.size, 0, none⟩) n n) zs := by
  subst hn
  refine ⟨⟨by simp, _, _, rfl, Nat.le_refl _, hm, (fun h => by cases h), fun _ => ⟨w.heap.size, 0, rfl, by simp, fun j u hu => ?_⟩⟩, hz⟩
  exact cell_of_heap (heap_alloc_new w _) (by simpa using hu)

theorem newV4 (w : World) (a b c d : Int) :
    ∃ w', (@Classical.epsilon _ neG (StF 29 (.pointer (some ⟨w.heap.size, 0, none⟩)) (.agg #[.int .i32 a, .int .i32 b, .int .i32 c, .int .i32 d]))).run Try.prog (w.alloc (.cells #[.int .i32 0, .int .i32 0, .int .i32 0, .int .i32 0] 29)) = .ok () w' ∧ VcAt w' w.heap.size [a, b, c, d] ∧ Ext w w' := newV w [a, b, c, d] rfl
theorem VcAt.load4 {w : World} {p : Nat} {a b c d : Int} (h : VcAt w p [a, b, c, d]) : (@Classical.epsilon _ neF (LdF 29 (.pointer (some ⟨p, 0, none⟩)))).run Try.prog w = .ok (.agg #[.int .i32 a, .int .i32 b, .int .i32 c, .int .i32 d]) w := h.load rfl
theorem SlC.pos {w : World} {a : Option Addr} {n cap sz : Nat} {cs : List Value} (h : SlC w (.slice a n cap) sz n cs) (h0 : 0 < n) :
    ∃ b off, a = some ⟨b, off, none⟩ ∧ b < w.heap.size ∧ ∀ j u, cs[j]? = some u → w.cell? ⟨b, off + j, none⟩ = some u := by
  obtain ⟨hlen, a', cap', he, hn, hc, hz, hp⟩ := h
  simp only [Value.slice.injEq] at he
  obtain ⟨rfl, _, rfl⟩ := he
  exact hp h0
attribute [local go_sem] eq_vec eq_tri
attribute [local go_sem ↓] Ld_Vc St_Vc Ld_Pr
set_option maxRecDepth 100000 in
set_option maxHeartbeats 2000000 in
theorem wakes_any (w : World) : Calls Try.prog 10 #[] w fun e w' => e = .returned (.bool true) ∧ Ext w w' := by
  have hv : Hid (∀ (v : Value) (w : World), Ints .u8 w v [1, 2, 3] → Calls Try.prog 12 #[v, .agg #[.int .i64 2, .int .i64 2, .bool false, .int .i64 0, .int .i64 1], .int .i64 0] w fun e w' => e = .returned (.tuple #[.agg #[.int .i32 131072, .int .i32 196608, .int .i32 0, .int .i32 65536], .int .i64 0]) ∧ Ext w w') := fun v w h => by
    have := fvertex_any v [1, 2, 3] ⟨2, 2, false, 0, 1⟩ 0 w h (by decide)
    rw [show fvV [1, 2, 3] ⟨2, 2, false, 0, 1⟩ 0 = [131072, 196608, 0, 65536] by decide +kernel, show fvE [1, 2, 3] ⟨2, 2, false, 0, 1⟩ 0 = 0 by decide +kernel] at this
    exact this
  have hp : Hid (∀ (v : Value) (w : World), Ints .i64 w v [4, 5, 6, 7] → Calls Try.prog 19 #[.int .i64 5, v] w fun e w' => ∃ a cap, e = .returned (.tuple #[.slice a 2 cap, .int .i64 0]) ∧ SlC w' (.slice a 2 cap) 4 2 [.int .i64 3, .int .i64 4, .int .i64 5, .int .i64 6, .int .i64 3, .int .i64 6, .int .i64 5, .int .i64 7] ∧ Ext w w') := fun v w h => by
    have := fprims_any 5 (by decide) (by decide) v [4, 5, 6, 7] w h (by decide)
    rw [show pmLen 5 [4, 5, 6, 7] = 2 by decide, show pmAll 5 [4, 5, 6, 7] = [.int .i64 3, .int .i64 4, .int .i64 5, .int .i64 6, .int .i64 3, .int .i64 6, .int .i64 5, .int .i64 7] from rfl] at this
    exact this
  go_enter Try.func10, Try.ntmps10
  have i1 := Ints.madeT (w := w) .u8 5 [1, 2, 3] 3 rfl (by decide) (by decide)
  go_upto_region 3 with (first | (go_at_call 12; refine (hv.out _ _ i1).mono ?_; rintro _ w2 ⟨rfl, hx2⟩; obtain ⟨w3, hst, h3, hx3⟩ := newV4 w2 131072 196608 0 65536; clear i1; have i2 := Ints.madeT (w := w3) .i64 3 [4, 5, 6, 7] 4 rfl (by decide) (by decide)) | (go_at_call 19; refine (hp.out _ _ i2).mono ?_; rintro _ w4 ⟨a, cap, rfl, hs, hx4⟩))
  have hl := (h3.ext (((Ext.refl _).alloc _).trans hx4)).load4
  have HX := Lib.hid ((((((Ext.refl w).alloc _).trans hx2).trans hx3).alloc _).trans hx4)
  obtain ⟨b, off, rfl, hbl, hcell⟩ := hs.pos (by decide)
  have k5 := hcell 5 _ rfl
  have k6 := hcell 6 _ rfl
  have k7 := hcell 7 _ rfl
  clear hcell hs i2 hst h3 hx2 hx3 hx4
  go_wp2_with fail
  go_ret
  exact ⟨rfl, HX.out⟩
end Go.Proofs.Ytgbcngmciabpkaa
