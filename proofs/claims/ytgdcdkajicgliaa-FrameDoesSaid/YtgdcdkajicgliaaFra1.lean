/- Planes in their blocks; contracts of may, New, Sides. Conditions: each theorem's own premises. -/
import Derived.Test.YtgdcdkajicgliaaPix9
import Derived.Test.YtgdcdkajicgliaaFold
import Derived.Deep.OwnRows
import Derived.Deep.DeepCutAuto
import Derived.Deep.RegionLaw
namespace Go.Proofs.Ytgdcdkajicgliaa
open Go.RowKit
set_option linter.unusedVariables false
set_option maxRecDepth 100000

def mayV (w h f : Int) : Bool := decide (1 ≤ w) && (decide (1 ≤ h) && (decide (w ≤ 64) && (decide (h ≤ 64) && (decide (1 ≤ f) && decide (f ≤ 4)))))
theorem may_true {w h f : Int} (hm : mayV w h f = true) : 1 ≤ w ∧ 1 ≤ h ∧ w ≤ 64 ∧ h ≤ 64 ∧ 1 ≤ f ∧ f ≤ 4 := by
  unfold mayV at hm
  simpa using hm
theorem may_any (x y f : Int) (w : World) : Calls Try.prog 56 #[.int .i64 x, .int .i64 y, .int .i64 f] w fun e w' => e = .returned (.bool (mayV x y f)) ∧ w = w' := by
  have hv := Lib.hid (show mayV x y f = (decide (1 ≤ x) && (decide (1 ≤ y) && (decide (x ≤ 64) && (decide (y ≤ 64) && (decide (1 ≤ f) && decide (f ≤ 4)))))) from rfl)
  by_cases h1 : 1 ≤ x
  · by_cases h2 : 1 ≤ y
    · by_cases h3 : x ≤ 64
      · by_cases h4 : y ≤ 64
        · by_cases h5 : 1 ≤ f
          · go_enter Try.func56, Try.ntmps56
            go_wp2
            all_goals go_ret
            all_goals rw [hv.out]
            all_goals exact ⟨by first | (simp_all; done) | (simp_all; intros; omega), rfl⟩
          · go_enter Try.func56, Try.ntmps56
            go_wp2
            all_goals go_ret
            all_goals rw [hv.out]
            all_goals exact ⟨by first | (simp_all; done) | (simp_all; intros; omega), rfl⟩
        · go_enter Try.func56, Try.ntmps56
          go_wp2
          all_goals go_ret
          all_goals rw [hv.out]
          all_goals exact ⟨by first | (simp_all; done) | (simp_all; intros; omega), rfl⟩
      · go_enter Try.func56, Try.ntmps56
        go_wp2
        all_goals go_ret
        all_goals rw [hv.out]
        all_goals exact ⟨by first | (simp_all; done) | (simp_all; intros; omega), rfl⟩
    · go_enter Try.func56, Try.ntmps56
      go_wp2
      all_goals go_ret
      all_goals rw [hv.out]
      all_goals exact ⟨by first | (simp_all; done) | (simp_all; intros; omega), rfl⟩
  · go_enter Try.func56, Try.ntmps56
    go_wp2
    all_goals go_ret
    all_goals rw [hv.out]
    all_goals exact ⟨by first | (simp_all; done) | (simp_all; intros; omega), rfl⟩
/-- Planes, in plain words. -/
structure Pl where
  (W H F : Nat)
  (dep sten : Bool)
  (col dz ms : List Int)
/-- The cells' bytes, numbers and bytes have their sizes. -/
structure Pl.Ok (P : Pl) : Prop where
  w1 : 1 ≤ P.W
  w2 : P.W ≤ 64
  h1 : 1 ≤ P.H
  h2 : P.H ≤ 64
  f1 : 1 ≤ P.F
  f2 : P.F ≤ 4
  col : P.col.length = P.W * P.H * szN P.F
  dz : P.dz.length = P.W * P.H
  ms : P.ms.length = P.W * P.H
  colw : ∀ z ∈ P.col, (Lit.int .u8 z).wf = true
  dzw : ∀ z ∈ P.dz, (Lit.int .u16 z).wf = true
  msw : ∀ z ∈ P.ms, (Lit.int .u8 z).wf = true
/-- Where planes lie. -/
structure Pb where
  (p c d m : Nat)
  (tc td tm : List Value)
  (kc kd km : Nat)
/-- What lies behind the bytes and numbers: the slices' rooms. -/
def Pb.K (B : Pb) (a b c : Nat) : Prop := (a + B.tc.length = B.kc ∧ B.kc ≤ maxLen) ∧ (b + B.td.length = B.kd ∧ B.kd ≤ maxLen) ∧ (c + B.tm.length = B.km ∧ B.km ≤ maxLen)
def Pl.C (P : Pl) (B : Pb) : List Value := [.int .i64 P.W, .int .i64 P.H, .int .i64 P.F, .slice (some ⟨B.c, 0, none⟩) P.col.length B.kc, .slice (some ⟨B.d, 0, none⟩) P.dz.length B.kd, .slice (some ⟨B.m, 0, none⟩) P.ms.length B.km, .bool P.dep, .bool P.sten]
structure PlAt (w : World) (B : Pb) (P : Pl) : Prop where
  ok : P.Ok
  pn : B.p ≠ B.c ∧ B.p ≠ B.d ∧ B.p ≠ B.m ∧ B.c ≠ B.d ∧ B.c ≠ B.m ∧ B.d ≠ B.m
  p : w.heap[B.p]? = some (.cells (P.C B).toArray 121 (0, 0))
  c : w.heap[B.c]? = some (.cells (P.col.map (Value.int .u8) ++ B.tc).toArray 5 (0, 0))
  d : w.heap[B.d]? = some (.cells (P.dz.map (Value.int .u16) ++ B.td).toArray 134 (0, 0))
  m : w.heap[B.m]? = some (.cells (P.ms.map (Value.int .u8) ++ B.tm).toArray 5 (0, 0))
  k : B.K (P.W * P.H * szN P.F) (P.W * P.H) (P.W * P.H)
theorem PlAt.ext {w w' : World} {B : Pb} {P : Pl} (h : PlAt w B P) (x : Ext w w') : PlAt w' B P := ⟨h.ok, h.pn, x.heap h.p, x.heap h.c, x.heap h.d, x.heap h.m, h.k⟩
theorem PlAt.chg {M : List Nat} {w w' : World} {B : Pb} {P : Pl} (h : PlAt w B P) (x : Chg M w w') (h1 : B.p ∉ M) (h2 : B.c ∉ M) (h3 : B.d ∉ M) (h4 : B.m ∉ M) : PlAt w' B P := ⟨h.ok, h.pn, x.heap h.p h1, x.heap h.c h2, x.heap h.d h3, x.heap h.m h4, h.k⟩
theorem heap_nil {w : World} {b : Nat} {cs : List Value} {T : TypeId} (h : w.heap[b]? = some (.cells cs.toArray T (0, 0))) : w.heap[b]? = some (.cells (cs ++ []).toArray T (0, 0)) := by rw [List.append_nil]; exact h
/-- A number in a block that goes on behind the numbers. -/
theorem cell_blk {k : IntKind} {w : World} {b i : Nat} {T : TypeId} {zs : List Int} {t : List Value} {z : Int} (h : w.heap[b]? = some (.cells (zs.map (Value.int k) ++ t).toArray T (0, 0))) (hz : zs[i]? = some z) : w.cell? ⟨b, i, none⟩ = some (.int k z) := by
  refine cell_of_heap h ?_
  have hl := (List.getElem?_eq_some_iff.1 hz).1
  rw [List.getElem?_toArray, List.getElem?_append_left (by rw [List.length_map]; exact hl), List.getElem?_map, hz]
  rfl
theorem heap_set_blk {k : IntKind} {w : World} {b i : Nat} {T : TypeId} {zs : List Int} {t : List Value} {z : Int} (h : w.heap[b]? = some (.cells (zs.map (Value.int k) ++ t).toArray T (0, 0))) (hi : i < zs.length) : (w.setCell ⟨b, i, none⟩ (.int k z)).heap[b]? = some (.cells ((zs.set i z).map (Value.int k) ++ t).toArray T (0, 0)) := by
  rw [heap_set h, List.setIfInBounds_toArray, List.set_append_left _ _ (by rw [List.length_map]; exact hi), List.map_set]
theorem made_ints (k : IntKind) (n : Nat) : (madeCells #[Value.int k 0] n) = ((List.replicate n (0 : Int)).map (Value.int k)).toArray := by
  apply Array.ext'
  simp only [List.map_replicate]
  refine List.eq_replicate_iff.2 ⟨by simp [madeCells], fun b hb => ?_⟩
  simp [madeCells] at hb
  obtain ⟨a, _, rfl⟩ := hb
  simp [Nat.mod_one]
theorem info_u8f : (Try.prog.info? 5).map (fun i => (i.zero, i.size, i.bytes)) = some (some (.int .u8 0), 1, 1) := by kernel_rfl
theorem info_u16f : (Try.prog.info? 134).map (fun i => (i.zero, i.size, i.bytes)) = some (some (.int .u16 0), 1, 2) := by kernel_rfl
/-- Planes of noughts. -/
def plZ (W H F : Nat) (dep sten : Bool) : Pl := ⟨W, H, F, dep, sten, List.replicate (W * H * szN F) 0, List.replicate (W * H) 0, List.replicate (W * H) 0⟩
theorem plZ_ok {W H F : Nat} (dep sten : Bool) (h1 : 1 ≤ W) (h2 : W ≤ 64) (h3 : 1 ≤ H) (h4 : H ≤ 64) (h5 : 1 ≤ F) (h6 : F ≤ 4) : (plZ W H F dep sten).Ok :=
  ⟨h1, h2, h3, h4, h5, h6, by simp [plZ], by simp [plZ], by simp [plZ], by intro z hz; obtain ⟨_, rfl⟩ := List.mem_replicate.1 hz; rfl, by intro z hz; obtain ⟨_, rfl⟩ := List.mem_replicate.1 hz; rfl, by intro z hz; obtain ⟨_, rfl⟩ := List.mem_replicate.1 hz; rfl⟩
set_option maxRecDepth 100000 in
theorem newp_bad (x y f : Int) (d s : Bool) (w : World) (h : mayV x y f = false) : Calls Try.prog 13 #[.int .i64 x, .int .i64 y, .int .i64 f, .bool d, .bool s] w fun e w' => e = .returned (.tuple #[.pointer none, .int .i64 2]) ∧ w = w' := by
  have HM := Lib.hid (may_any x y f)
  rw [h] at HM
  clear h
  go_enter Try.func13, Try.ntmps13
  go_wp2_with (go_at_call 56; refine (HM.out _).mono ?_; rintro _ _ ⟨rfl, rfl⟩)
  go_ret2
  exact ⟨rfl, rfl⟩
theorem heap2x (w : World) (A B : Obj) : ∃ w2, (w.alloc A).alloc B = w2 ∧ w2.heap[w.heap.size]? = some A ∧ w2.heap[w.heap.size + 1]? = some B ∧ Ext w w2 :=
  ⟨_, rfl, (heap_pair w A B).1, (heap_pair w A B).2, ((Ext.refl _).alloc _).alloc _⟩
theorem newp_fin {w w1 w2 W' : World} {p c A C W H F D M : Nat} {d s : Bool} {X Y : Obj} (hx : Ext w w2) (hp : w2.heap[p]? = some (.cells #[.int .i64 W, .int .i64 H, .int .i64 F, .slice (some ⟨c, 0, none⟩) C C, .slice none 0 0, .slice none 0 0, .bool d, .bool s] 121 (0, 0))) (hc : w2.heap[c]? = some (.cells ((List.replicate C (0 : Int)).map (Value.int .u8)).toArray 5 (0, 0)))
    (e1 : c + 1 = p) (e2 : w1.heap.size = c) (hs : w.heap.size ≤ w1.heap.size) (hA : W * H = A) (hC : A * szN F = C) (hok : (plZ W H F d s).Ok)
    (hXY : ((⟨X, Y⟩ : Obj × Obj) = ⟨.cells (madeCells #[.int .u16 0] A) 134, .cells (madeCells #[.int .u8 0] A) 5⟩ ∧ (⟨D, M⟩ : Nat × Nat) = ⟨w2.heap.size, w2.heap.size + 1⟩) ∨ ((⟨X, Y⟩ : Obj × Obj) = ⟨.cells (madeCells #[.int .u8 0] A) 5, .cells (madeCells #[.int .u16 0] A) 134⟩ ∧ (⟨D, M⟩ : Nat × Nat) = ⟨w2.heap.size + 1, w2.heap.size⟩))
    (hW : W' = ((((w2.setCell ⟨p, 4, none⟩ (.slice (some ⟨D, 0, none⟩) A A)).setCell ⟨p, 5, none⟩ (.slice (some ⟨M, 0, none⟩) A A)).alloc X).alloc Y).drew) :
    w.heap.size ≤ p ∧ w.heap.size ≤ c ∧ w.heap.size ≤ D ∧ w.heap.size ≤ M ∧ PlAt W' ⟨p, c, D, M, [], [], [], C, A, A⟩ (plZ W H F d s) ∧ Ext w W' := by
  subst hW
  have g1 := heap_set (k := 4) (u := .slice (some ⟨D, 0, none⟩) A A) hp
  have g2 := heap_set (k := 5) (u := .slice (some ⟨M, 0, none⟩) A A) g1
  have x2 : Ext w ((w2.setCell ⟨p, 4, none⟩ (.slice (some ⟨D, 0, none⟩) A A)).setCell ⟨p, 5, none⟩ (.slice (some ⟨M, 0, none⟩) A A)) := (hx.setCell (by show w.heap.size ≤ p; omega) _).setCell (by show w.heap.size ≤ p; omega) _
  have c2 : Chg [p] w2 ((w2.setCell ⟨p, 4, none⟩ (.slice (some ⟨D, 0, none⟩) A A)).setCell ⟨p, 5, none⟩ (.slice (some ⟨M, 0, none⟩) A A)) := ((Chg.refl _ _).setCell (p := ⟨p, 4, none⟩) (by simp) _).setCell (p := ⟨p, 5, none⟩) (by simp) _
  have c3 := c2.heap hc (by simp; omega)
  have hsz : ((w2.setCell ⟨p, 4, none⟩ (.slice (some ⟨D, 0, none⟩) A A)).setCell ⟨p, 5, none⟩ (.slice (some ⟨M, 0, none⟩) A A)).heap.size = w2.heap.size := by simp
  have hp2 := heap_lt hp
  have hxs := hx.size
  generalize (w2.setCell ⟨p, 4, none⟩ (.slice (some ⟨D, 0, none⟩) A A)).setCell ⟨p, 5, none⟩ (.slice (some ⟨M, 0, none⟩) A A) = w4 at *
  obtain ⟨w5, e5, h5, h6, x5⟩ := heap2x w4 X Y
  rw [e5]
  rw [hsz] at h5 h6
  have x6 : Ext w4 w5.drew := x5.drew
  have hKA : A ≤ maxLen := by
    have : W * H ≤ 4096 := Nat.mul_le_mul hok.w2 hok.h2
    unfold maxLen
    omega
  have hKC : C ≤ maxLen := by
    have h1 : W * H ≤ 4096 := Nat.mul_le_mul hok.w2 hok.h2
    rw [hA] at h1
    have := Nat.mul_le_mul h1 (szN_bd F).2
    rw [hC] at this
    unfold maxLen
    omega
  subst hA
  subst hC
  have HK : (⟨p, c, D, M, [], [], [], W * H * szN F, W * H, W * H⟩ : Pb).K (W * H * szN F) (W * H) (W * H) := ⟨⟨rfl, hKC⟩, ⟨rfl, hKA⟩, ⟨rfl, hKA⟩⟩
  rcases hXY with ⟨h1, h2⟩ | ⟨h1, h2⟩
  · simp only [Prod.mk.injEq] at h1 h2
    obtain ⟨rfl, rfl⟩ := h1
    obtain ⟨rfl, rfl⟩ := h2
    rw [made_ints] at h5 h6
    refine ⟨by omega, by omega, by omega, by omega, ⟨hok, ⟨by simp; omega, by simp; omega, by simp; omega, by simp; omega, by simp; omega, by simp⟩, ?_, heap_nil (x6.heap c3), heap_nil h5, heap_nil h6, HK⟩, x2.trans x6⟩
    have := x6.heap g2
    simpa [Pl.C, plZ] using this
  · simp only [Prod.mk.injEq] at h1 h2
    obtain ⟨rfl, rfl⟩ := h1
    obtain ⟨rfl, rfl⟩ := h2
    rw [made_ints] at h5 h6
    refine ⟨by omega, by omega, by omega, by omega, ⟨hok, ⟨by simp; omega, by simp; omega, by simp; omega, by simp; omega, by simp; omega, by simp⟩, ?_, heap_nil (x6.heap c3), heap_nil h6, heap_nil h5, HK⟩, x2.trans x6⟩
    have := x6.heap g2
    simpa [Pl.C, plZ] using this
set_option maxRecDepth 100000 in
set_option maxHeartbeats 4000000 in
theorem newp_any (W H F : Nat) (d s : Bool) (w : World) (h : mayV W H F = true) : Calls Try.prog 13 #[.int .i64 W, .int .i64 H, .int .i64 F, .bool d, .bool s] w fun e w' => ∃ B : Pb, e = .returned (.tuple #[.pointer (some ⟨B.p, 0, none⟩), .int .i64 0]) ∧ w.heap.size ≤ B.p ∧ w.heap.size ≤ B.c ∧ w.heap.size ≤ B.d ∧ w.heap.size ≤ B.m ∧ PlAt w' B (plZ W H F d s) ∧ Ext w w' := by
  obtain ⟨h1, h3, h2, h4, h5, h6⟩ := may_true h
  have HM := Lib.hid (may_any W H F)
  rw [h] at HM
  have HS := Lib.hid (fun w => Size_any F w)
  have hsz := szN_bd F
  rw [szN_V F (by omega) (by omega)] at HS
  have HOK := Lib.hid (plZ_ok d s (show 1 ≤ W by omega) (show W ≤ 64 by omega) (show 1 ≤ H by omega) (show H ≤ 64 by omega) (show 1 ≤ F by omega) (show F ≤ 4 by omega))
  have hab : W * H ≤ 4096 := Nat.mul_le_mul (show W ≤ 64 by omega) (show H ≤ 64 by omega)
  have hac : W * H * szN F ≤ 16384 := Nat.mul_le_mul hab hsz.2
  obtain ⟨A, hA⟩ : ∃ A, W * H = A := ⟨_, rfl⟩
  obtain ⟨C, hC⟩ : ∃ C, A * szN F = C := ⟨_, rfl⟩
  have HA := Lib.hid hA
  have HC := Lib.hid hC
  have s1 : IntKind.i64.wrap ((W : Int) * (H : Int)) = (A : Int) := by rw [← Int.natCast_mul, hA]; exact IntWalk.i64_in _ ⟨by omega, by omega⟩
  have s2 : IntKind.i64.wrap ((A : Int) * (szN F : Int)) = (C : Int) := by rw [← Int.natCast_mul, hC]; exact IntWalk.i64_in _ ⟨by rw [hA, hC] at hac; omega, by rw [hA, hC] at hac; omega⟩
  rw [hA] at hab
  rw [hA, hC] at hac
  have m1 : ∀ w : World, (Instr.makeSlice 48 (.int .i64 (C : Int)) (.int .i64 (C : Int))).run Try.prog w = .ok (.slice (some ⟨w.heap.size, 0, none⟩) C C) (w.alloc (.cells (madeCells #[.int .u8 0] C) 5)) := fun w => run_make_row' _ _ _ 1 Try.underlying48 info_u8f rfl _ _ C (by omega) (by omega) w
  have m2 : ∀ w : World, (Instr.makeSlice 48 (.int .i64 (A : Int)) (.int .i64 (A : Int))).run Try.prog w = .ok (.slice (some ⟨w.heap.size, 0, none⟩) A A) (w.alloc (.cells (madeCells #[.int .u8 0] A) 5)) := fun w => run_make_row' _ _ _ 1 Try.underlying48 info_u8f rfl _ _ A (by omega) (by omega) w
  have m3 : ∀ w : World, (Instr.makeSlice 119 (.int .i64 (A : Int)) (.int .i64 (A : Int))).run Try.prog w = .ok (.slice (some ⟨w.heap.size, 0, none⟩) A A) (w.alloc (.cells (madeCells #[.int .u16 0] A) 134)) := fun w => run_make_row' _ _ _ 2 Try.underlying119 info_u16f rfl _ _ A (by omega) (by omega) w
  clear h hA hC
  go_enter Try.func13, Try.ntmps13
  go_upto_region 4 with (first | (go_at_call 56; refine (HM.out _).mono ?_; rintro _ _ ⟨rfl, rfl⟩) | (go_at_call 57; refine (HS.out _).mono ?_; rintro _ w1 ⟨rfl, hx1⟩))
  rw [made_ints]
  obtain ⟨w2, e2, hc2, hp2, hx2⟩ := heap2x w1 (.cells ((List.replicate C (0 : Int)).map (Value.int .u8)).toArray 5) (.cells #[.int .i64 W, .int .i64 H, .int .i64 F, .slice (some ⟨w1.heap.size, 0, none⟩) C C, .slice none 0 0, .slice none 0 0, .bool d, .bool s] 121)
  rw [e2]
  have HX2 := Lib.hid (hx1.trans hx2)
  have HC2 := Lib.hid hc2
  have hs1 := Lib.hid hx1.size
  have n2 := heap_lt hp2
  obtain ⟨p, hp⟩ : ∃ p, w1.heap.size + 1 = p := ⟨_, rfl⟩
  obtain ⟨c, hc⟩ : ∃ c, w1.heap.size = c := ⟨_, rfl⟩
  rw [hp] at n2 hp2
  rw [hc] at hp2 hp HC2
  rw [hc]
  rw [hp]
  have f3 : w2.frozen? ⟨p, 4, none⟩ = false := free_of_heap hp2
  have f4 : w2.frozen? ⟨p, 5, none⟩ = false := free_of_heap hp2
  have q3 : w2.cell? ⟨p, 4, none⟩ = some (.slice none 0 0) := cell_of_heap hp2 rfl
  have q4 : w2.cell? ⟨p, 5, none⟩ = some (.slice none 0 0) := cell_of_heap hp2 rfl
  have n3 : p < w2.heap.size + 1 := by omega
  have n4 : p < w2.heap.size + 1 + 1 := by omega
  have n5 : p ≠ w2.heap.size := by omega
  have n6 : p ≠ w2.heap.size + 1 := by omega
  have HP2 := Lib.hid hp2
  have HP := Lib.hid hp
  have HCC := Lib.hid hc
  clear e2 hc2 hp2 hx2 hx1 m1 hp hc
  go_region_law (fail)
  all_goals
    go_wp2_with fail
    go_ret2
  all_goals first
    | exact ⟨⟨p, c, w2.heap.size, w2.heap.size + 1, [], [], [], C, A, A⟩, rfl, newp_fin HX2.out HP2.out HC2.out HP.out HCC.out hs1.out HA.out HC.out HOK.out (.inl ⟨rfl, rfl⟩) rfl⟩
    | exact ⟨⟨p, c, w2.heap.size + 1, w2.heap.size, [], [], [], C, A, A⟩, rfl, newp_fin HX2.out HP2.out HC2.out HP.out HCC.out hs1.out HA.out HC.out HOK.out (.inr ⟨rfl, rfl⟩) rfl⟩
end Go.Proofs.Ytgdcdkajicgliaa
