/- What stands between two calls of FrameDoes; contracts at numbers that may be below 0. Conditions: each theorem's own premises. -/
import Derived.Test.YtgdcdkajicgliaaDoc7
import Derived.Test.YtgdcdkajicgliaaDoc8
import Derived.Test.YtgdcdkajicgliaaDoc9
import Derived.Test.YtgdcdkajicgliaaFraQ
namespace Go.Proofs.Ytgdcdkajicgliaa
open Go.RowKit
set_option linter.unusedVariables false
set_option linter.unusedSimpArgs false
set_option maxRecDepth 100000
/-- The program's planes Pp and the document's Pd stand. -/
structure DSt (B : Pb) (b13 bse : Nat) (w wr : World) (Pp Pd : Pl) (v : Value) (L : List Bt) : Prop where
  p : PlAt wr B Pp
  d : DpAt wr b13 Pd v
  a : DAt (fun k => bse ≤ k ∧ k ≠ b13) wr v Pd L
  x : Ext w wr
  bb : bse ≤ b13 ∧ B.p < bse ∧ B.c < bse ∧ B.d < bse ∧ B.m < bse ∧ w.heap.size ≤ B.c ∧ w.heap.size ≤ B.d ∧ w.heap.size ≤ B.m ∧ w.heap.size ≤ b13
theorem DSt.n {B : Pb} {b13 bse : Nat} {w wr : World} {Pp Pd : Pl} {v : Value} {L : List Bt} (h : DSt B b13 bse w wr Pp Pd v L) : b13 < wr.heap.size := heap_lt h.d
theorem DSt.ext {B : Pb} {b13 bse : Nat} {w wr w' : World} {Pp Pd : Pl} {v : Value} {L : List Bt} (h : DSt B b13 bse w wr Pp Pd v L) (x : Ext wr w') : DSt B b13 bse w w' Pp Pd v L :=
  ⟨h.p.ext x, x.heap h.d, h.a.ext x, h.x.trans x, h.bb⟩
theorem DSt.prog {B : Pb} {b13 bse : Nat} {w wr w' : World} {Pp Pp' Pd : Pl} {v : Value} {L : List Bt} (h : DSt B b13 bse w wr Pp Pd v L) (hp : PlAt w' B Pp') (x : Chg [B.c, B.d, B.m] wr w') : DSt B b13 bse w w' Pp' Pd v L := by
  obtain ⟨h1, h2, h3, h4, h5, h6, h7, h8, h9⟩ := h.bb
  refine ⟨hp, x.heap h.d (by simp only [List.mem_cons, List.not_mem_nil, or_false]; omega), h.a.chg x (fun m hm hg => ?_), h.x.chgTrans x (fun m hm => ?_), h.bb⟩
  · simp only [List.mem_cons, List.not_mem_nil, or_false] at hm
    have := hg.1
    omega
  · simp only [List.mem_cons, List.not_mem_nil, or_false] at hm
    rcases hm with rfl | rfl | rfl <;> assumption
theorem DSt.doc {B : Pb} {b13 bse : Nat} {w wr w' : World} {Pp Pd Pd' : Pl} {v v' : Value} {L L' : List Bt} (h : DSt B b13 bse w wr Pp Pd v L) (ha : DAt (fun k => bse ≤ k ∧ k ≠ b13) wr v' Pd' L') (hd : DpAt w' b13 Pd' v') (x : Chg [b13] wr w') : DSt B b13 bse w w' Pp Pd' v' L' := by
  obtain ⟨h1, h2, h3, h4, h5, h6, h7, h8, h9⟩ := h.bb
  refine ⟨h.p.chg x (by simp only [List.mem_cons, List.not_mem_nil, or_false]; omega) (by simp only [List.mem_cons, List.not_mem_nil, or_false]; omega) (by simp only [List.mem_cons, List.not_mem_nil, or_false]; omega) (by simp only [List.mem_cons, List.not_mem_nil, or_false]; omega), hd, ha.chg x (fun m hm hg => ?_), h.x.chgTrans x (fun m hm => ?_), h.bb⟩
  · simp only [List.mem_cons, List.not_mem_nil, or_false] at hm
    exact hg.2 hm
  · simp only [List.mem_cons, List.not_mem_nil, or_false] at hm
    subst hm
    exact h9
/-- New blocks are the document's. -/
theorem DSt.new {B : Pb} {b13 bse : Nat} {w wr : World} {Pp Pd : Pl} {v : Value} {L : List Bt} (h : DSt B b13 bse w wr Pp Pd v L) : ∀ k, wr.heap.size ≤ k → bse ≤ k ∧ k ≠ b13 := fun k hk => by
  have h1 := h.n
  have h2 := h.bb.1
  omega
/-- What holds between two calls. -/
def DInv (B : Pb) (b13 bse : Nat) (w wr : World) : Prop := ∃ P v L, DSt B b13 bse w wr P P v L
theorem layp_badZ (B : Pb) (P : Pl) (x y : Int) (c : Ce) (hi : inP P.W P.H x y = true) (hm : mayB c = false) (w : World) (h : PlAt w B P) : Calls Try.prog 19 #[.pointer (some ⟨B.p, 0, none⟩), .int .i64 x, .int .i64 y, .agg c.C.toArray] w fun e w' => e = .returned (.int .i64 2) ∧ Ext w w' := by
  obtain ⟨i1, i2, i3, i4⟩ := inP_true hi
  obtain ⟨X, rfl⟩ : ∃ X : Nat, x = X := ⟨x.toNat, by omega⟩
  obtain ⟨Y, rfl⟩ : ∃ Y : Nat, y = Y := ⟨y.toNat, by omega⟩
  exact layp_bad B P X Y c (by omega) (by omega) hm w h
theorem layp_okZ (B : Pb) (P : Pl) (x y : Int) (c : Ce) (hi : inP P.W P.H x y = true) (hm : mayB c = true) (w : World) (h : PlAt w B P) : Calls Try.prog 19 #[.pointer (some ⟨B.p, 0, none⟩), .int .i64 x, .int .i64 y, .agg c.C.toArray] w fun e w' => e = .returned (.int .i64 0) ∧ PlAt w' B (layV P (y.toNat * P.W + x.toNat) c) ∧ Chg [B.c, B.d, B.m] w w' := by
  obtain ⟨i1, i2, i3, i4⟩ := inP_true hi
  obtain ⟨X, rfl⟩ : ∃ X : Nat, x = X := ⟨x.toNat, by omega⟩
  obtain ⟨Y, rfl⟩ : ∃ Y : Nat, y = Y := ⟨y.toNat, by omega⟩
  rw [Int.toNat_natCast, Int.toNat_natCast]
  exact layp_ok B P X Y c (by omega) (by omega) hm w h
theorem dlay_anyZ (G : Nat → Prop) (P : Pl) (v : Value) (L : List Bt) (x y : Int) (c : Ce) (hi : inP P.W P.H x y = true) (hm : mayB c = true) (w : World) (h : DAt G w v P L) (hG : ∀ k, w.heap.size ≤ k → G k) : Calls Try.prog 33 #[.agg (P.D v).toArray, .int .i64 x, .int .i64 y, .agg c.C.toArray] w fun e w' => ∃ v' L', e = .returned (.agg ((layV P (y.toNat * P.W + x.toNat) c).D v').toArray) ∧ DAt G w' v' (layV P (y.toNat * P.W + x.toNat) c) L' ∧ Ext w w' := by
  obtain ⟨i1, i2, i3, i4⟩ := inP_true hi
  obtain ⟨X, rfl⟩ : ∃ X : Nat, x = X := ⟨x.toNat, by omega⟩
  obtain ⟨Y, rfl⟩ : ∃ Y : Nat, y = Y := ⟨y.toNat, by omega⟩
  rw [Int.toNat_natCast, Int.toNat_natCast]
  have hok := mayB_ok hm
  exact dlay_any G P v L X Y c (by omega) (by omega) hok.In hok.s w h hG
theorem rdV_wf (P : Pl) (x y : Int) (w h : Nat) : ∀ z ∈ rdV P x y w h, (Lit.int .u8 z).wf = true := by
  rw [← rdk_all]
  exact rdk_wf P x y w h _ (Nat.le_refl _)
theorem read_ints {w : World} {g : Nat} {P : Pl} (hP : P.Ok) {x y : Int} {n m : Nat} (hx : -9223372036854775808 ≤ x ∧ x ≤ 9223372036854775807) (hy : -9223372036854775808 ≤ y ∧ y ≤ 9223372036854775807) (hn : n ≤ 64) (hm : m ≤ 64) (h : w.heap[g]? = some (.cells ((rdV P x y n m).map (Value.int .u8)).toArray 5 (0, 0))) : Ints .u8 w (.slice (some ⟨g, 0, none⟩) (4 * n * m) (4 * n * m)) (rdV P x y n m) := by
  have hl := (rdV_eq hP hx hy hn hm).2
  have h4 : 4 * n * m ≤ 4 * 64 * 64 := Nat.mul_le_mul (Nat.mul_le_mul_left 4 hn) hm
  have hb := ints_block (k := .u8) (zs := rdV P x y n m) (t := []) (cap := 4 * n * m) (by rw [List.append_nil]; exact h) (by omega) (by unfold maxLen; omega) (rdV_wf P x y n m)
  rw [hl] at hb
  exact hb
end Go.Proofs.Ytgdcdkajicgliaa
