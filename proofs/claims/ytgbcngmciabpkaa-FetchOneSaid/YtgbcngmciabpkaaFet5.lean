/- Contracts: the document's Right and read. Conditions: each theorem's own premises. -/
import Derived.Test.YtgbcngmciabpkaaFet4
namespace Go.Proofs.Ytgbcngmciabpkaa
open Go.RowKit Go.ChangeShapes
set_option linter.unusedVariables false

theorem rright_any (a : Arr) (w : World) : Calls Try.prog 13 #[.agg a.C.toArray] w fun e w' => e = .returned (.bool (arrOk a)) ∧ Ext w w' := by
  obtain ⟨w2, hw2, ha, hx⟩ : ∃ w2, w.alloc (.cells a.C.toArray 24) = w2 ∧ AAt w2 w.heap.size a ∧ Ext w w2 := ⟨_, rfl, heap_alloc_new _ _, (Ext.refl _).alloc _⟩
  have HW := Lib.hid hw2
  clear hw2
  obtain ⟨r, hr⟩ : ∃ r, arrOk a = r := ⟨_, rfl⟩
  rw [hr]
  have HR := Lib.hid hr
  clear hr
  have HX := Lib.hid hx
  go_enter Try.func13, Try.ntmps13
  go_upto_region 1 with fail
  rw [HW.out]
  generalize w.heap.size = b0 at *
  have c0 : w2.cell? ⟨b0, 0, none⟩ = some (.int .i64 a.sz) := cell_of_heap ha rfl
  have c1 : w2.cell? ⟨b0, 1, none⟩ = some (.int .i64 a.kd) := cell_of_heap ha rfl
  have c3 : w2.cell? ⟨b0, 3, none⟩ = some (.int .i64 a.st) := cell_of_heap ha rfl
  have c4 : w2.cell? ⟨b0, 4, none⟩ = some (.int .i64 a.of) := cell_of_heap ha rfl
  have n0 := heap_lt ha
  clear ha hx
  obtain ⟨sz, kd, nm, st, of⟩ := a
  simp only at c0 c1 c3 c4
  have HR' : Hid (arrOk ⟨sz, kd, nm, st, of⟩ = r) := HR
  go_wp2_with (go_at_call 18; refine (wd_any _ _).mono ?_; rintro _ _ ⟨rfl, rfl⟩)
  all_goals go_ret
  all_goals refine ⟨ret_bool ?_, HX.out⟩
  all_goals rw [← HR.out]
  all_goals unfold arrOk
  all_goals dsimp only
  all_goals rw [Bool.eq_iff_iff]
  all_goals simp only [Bool.and_eq_true, decide_eq_true_eq, Bool.false_eq_true]
  all_goals (constructor <;> intro hh <;> first | exact hh.elim | omega)

theorem leN_bd : ∀ (l : List Int), (∀ z ∈ l, 0 ≤ z ∧ z ≤ 255) → 0 ≤ leN l ∧ leN l < 256 ^ l.length
  | [], _ => by simp [leN]
  | z :: l, h => by
    obtain ⟨h1, h2⟩ := leN_bd l fun y hy => h y (by simp [hy])
    have h3 := h z (by simp)
    simp only [leN, List.length_cons, Int.pow_succ]
    omega
theorem wd_nat {k : Int} (h : 0 < wdR k) : ∃ W : Nat, wdR k = W ∧ 1 ≤ W ∧ W ≤ 4 := by
  rcases kinds k with rfl | rfl | rfl | rfl | rfl | hk
  · exact ⟨1, rfl, by decide, by decide⟩
  · exact ⟨1, rfl, by decide, by decide⟩
  · exact ⟨2, rfl, by decide, by decide⟩
  · exact ⟨2, rfl, by decide, by decide⟩
  · exact ⟨4, rfl, by decide, by decide⟩
  · rw [(kinds_no hk).1] at h; cases h
/-- The bytes of a number. -/
def bsAt (bs : List Int) (A W : Nat) : List Int := (bs.drop A).take W
theorem leN_step {bs : List Int} {A W q : Nat} (hA : A + W ≤ bs.length) (hq : q < W) : leN ((bsAt bs A W).drop q) = bs.getD (A + q) 0 + 256 * leN ((bsAt bs A W).drop (q + 1)) := by
  have hl : (bsAt bs A W).length = W := by unfold bsAt; rw [List.length_take, List.length_drop]; omega
  rw [List.drop_eq_getElem_cons (by omega), leN]
  congr 1
  unfold bsAt
  rw [List.getElem_take, List.getElem_drop, List.getD_eq_getElem?_getD, List.getElem?_eq_getElem (by omega)]
  rfl

theorem pow256_pos (n : Nat) : 0 < (256 : Int) ^ n := by
  induction n with
  | zero => decide
  | succ n ih => rw [Int.pow_succ]; omega
theorem pow256 {m n : Nat} (h : m ≤ n) : (256 : Int) ^ m ≤ 256 ^ n := by
  induction n with
  | zero =>
    obtain rfl : m = 0 := by omega
    exact Int.le_refl _
  | succ n ih =>
    rcases Nat.lt_or_ge n m with hn | hn
    · obtain rfl : m = n + 1 := by omega
      exact Int.le_refl _
    · have h1 := ih hn
      have h2 := pow256_pos n
      rw [Int.pow_succ]
      omega
set_option maxRecDepth 10000 in
theorem sg8 (N : Int) (h1 : 0 ≤ N) (h2 : N < 256) : IntKind.i8.wrap N = if 127 < N then N - 256 else N := by
  simp only [IntKind.wrap, IntKind.bits, IntKind.signed]; simp; split <;> split <;> omega
set_option maxRecDepth 10000 in
theorem sg16 (N : Int) (h1 : 0 ≤ N) (h2 : N < 65536) : IntKind.i16.wrap N = if 32767 < N then N - 65536 else N := by
  simp only [IntKind.wrap, IntKind.bits, IntKind.signed]; simp; split <;> split <;> omega
set_option maxRecDepth 10000 in
theorem sg32 (N : Int) (h1 : 0 ≤ N) (h2 : N < 4294967296) : IntKind.i32.wrap N = if 2147483647 < N then N - 4294967296 else N := by
  simp only [IntKind.wrap, IntKind.bits, IntKind.signed]; simp; split <;> split <;> omega
theorem us8 (N : Int) (h1 : 0 ≤ N) (h2 : N < 256) : IntKind.u8.wrap N = N := by
  simp only [IntKind.wrap, IntKind.bits, IntKind.signed]; simp; omega
theorem us16 (N : Int) (h1 : 0 ≤ N) (h2 : N < 65536) : IntKind.u16.wrap N = N := by
  simp only [IntKind.wrap, IntKind.bits, IntKind.signed]; simp; omega
theorem bsAt_in {bs : List Int} (hb : ∀ z ∈ bs, (Lit.int .u8 z).wf = true) (A W q : Nat) : 0 ≤ leN ((bsAt bs A W).drop q) ∧ leN ((bsAt bs A W).drop q) < 256 ^ (W - q) := by
  obtain ⟨h1, h2⟩ := leN_bd ((bsAt bs A W).drop q) fun z hz => bounds_u8 (hb z (List.mem_of_mem_drop (List.mem_of_mem_take (List.mem_of_mem_drop hz))))
  refine ⟨h1, Int.lt_of_lt_of_le h2 ?_⟩
  have : ((bsAt bs A W).drop q).length ≤ W - q := by unfold bsAt; rw [List.length_drop, List.length_take]; omega
  exact pow256 this
set_option maxHeartbeats 1000000 in
theorem read_any2 (v : Value) (bs : List Int) (k : Int) (A : Nat) (w : World) (h : Ints .u8 w v bs) (hw : 0 < wdR k) (hA : (A : Int) + wdR k ≤ bs.length) (hb : bs.length ≤ 140737488355328) :
    Calls Try.prog 28 #[v, .int .i64 k, .int .i64 A] w fun e w' => e = .returned (.int .i64 (rdV k (bsAt bs A (wdR k).toNat))) ∧ w = w' := by
  obtain ⟨W, hW, hW1, hW4⟩ := wd_nat hw
  rw [hW] at hA
  have HW := Lib.hid hW
  have HH := Lib.hid h
  obtain ⟨⟨_, a, cap, rfl, hc1, hc2, _, _⟩, _⟩ := h
  have HK := Lib.hid hw
  have hAW : A + W ≤ bs.length := by omega
  rw [hW]
  clear hw hW
  rw [show ((W : Int)).toNat = W from rfl]
  go_enter Try.func28, Try.ntmps28
  go_wp2_with (go_at_call 18; refine (wd_any _ _).mono ?_; rw [HW.out]; rintro _ _ ⟨rfl, rfl⟩)
  go_loop [7, 9] (fun n i => ∃ j : Nat, j ≤ W ∧ i = .int .i64 ((j : Int) - 1) ∧ n = .int .i64 (leN ((bsAt bs A W).drop j))) (fun _ i => (intOf i + 1).toNat)
  case atStart => exact ⟨W, Nat.le_refl _, rfl, by rw [List.drop_eq_nil_of_le (by unfold bsAt; rw [List.length_take]; omega)]; rfl⟩
  case round =>
    obtain ⟨j, hj, rfl, rfl⟩ := hrel
    have hbnd := bsAt_in HH.out.2 A W j
    cases j with
    | zero =>
      rw [List.drop_zero] at hbnd ⊢
      obtain ⟨hN1, hN2⟩ := hbnd
      rw [show W - 0 = W from rfl] at hN2
      rcases kinds k with rfl | rfl | rfl | rfl | rfl | hk
      · obtain rfl : W = 1 := by have := HW.out; have e : wdR 1 = 1 := rfl; omega
        have HR := Lib.hid (show rdV 1 (bsAt bs A 1) = if 127 < leN (bsAt bs A 1) then leN (bsAt bs A 1) - 256 else leN (bsAt bs A 1) from sg8 _ hN1 hN2)
        obtain ⟨N, hN⟩ : ∃ N, leN (bsAt bs A 1) = N := ⟨_, rfl⟩
        rw [hN] at hN1 hN2 HR ⊢
        clear hN
        by_cases hN : 127 < N
        all_goals go_wp2_with (go_at_call 32; refine (ends_all _ _).mono ?_; rw [show loE 1 = -128 from rfl, show hiE 1 = 127 from rfl]; rintro _ _ ⟨rfl, rfl⟩)
        all_goals go_ret
        all_goals exact ⟨ret_int (by rw [HR.out]; (first | (rw [if_pos (by omega)]; done) | (rw [if_neg (by omega)]; done) | (rw [if_pos (by omega)]; omega))), rfl⟩
      · obtain rfl : W = 1 := by have := HW.out; have e : wdR 2 = 1 := rfl; omega
        have HR := Lib.hid (show rdV 2 (bsAt bs A 1) = leN (bsAt bs A 1) from us8 _ hN1 hN2)
        obtain ⟨N, hN⟩ : ∃ N, leN (bsAt bs A 1) = N := ⟨_, rfl⟩
        rw [hN] at hN1 hN2 HR ⊢
        clear hN
        have hN : N ≤ 255 := by omega
        go_wp2_with (go_at_call 32; refine (ends_all _ _).mono ?_; rw [show loE 2 = 0 from rfl, show hiE 2 = 255 from rfl]; rintro _ _ ⟨rfl, rfl⟩)
        all_goals go_ret
        all_goals exact ⟨ret_int HR.out.symm, rfl⟩
      · obtain rfl : W = 2 := by have := HW.out; have e : wdR 3 = 2 := rfl; omega
        have HR := Lib.hid (show rdV 3 (bsAt bs A 2) = if 32767 < leN (bsAt bs A 2) then leN (bsAt bs A 2) - 65536 else leN (bsAt bs A 2) from sg16 _ hN1 hN2)
        obtain ⟨N, hN⟩ : ∃ N, leN (bsAt bs A 2) = N := ⟨_, rfl⟩
        rw [hN] at hN1 hN2 HR ⊢
        clear hN
        by_cases hN : 32767 < N
        all_goals go_wp2_with (go_at_call 32; refine (ends_all _ _).mono ?_; rw [show loE 3 = -32768 from rfl, show hiE 3 = 32767 from rfl]; rintro _ _ ⟨rfl, rfl⟩)
        all_goals go_ret
        all_goals exact ⟨ret_int (by rw [HR.out]; (first | (rw [if_pos (by omega)]; done) | (rw [if_neg (by omega)]; done) | (rw [if_pos (by omega)]; omega))), rfl⟩
      · obtain rfl : W = 2 := by have := HW.out; have e : wdR 4 = 2 := rfl; omega
        have HR := Lib.hid (show rdV 4 (bsAt bs A 2) = leN (bsAt bs A 2) from us16 _ hN1 hN2)
        obtain ⟨N, hN⟩ : ∃ N, leN (bsAt bs A 2) = N := ⟨_, rfl⟩
        rw [hN] at hN1 hN2 HR ⊢
        clear hN
        have hN : N ≤ 65535 := by omega
        go_wp2_with (go_at_call 32; refine (ends_all _ _).mono ?_; rw [show loE 4 = 0 from rfl, show hiE 4 = 65535 from rfl]; rintro _ _ ⟨rfl, rfl⟩)
        all_goals go_ret
        all_goals exact ⟨ret_int HR.out.symm, rfl⟩
      · obtain rfl : W = 4 := by have := HW.out; have e : wdR 5 = 4 := rfl; omega
        have HR := Lib.hid (show rdV 5 (bsAt bs A 4) = if 2147483647 < leN (bsAt bs A 4) then leN (bsAt bs A 4) - 4294967296 else leN (bsAt bs A 4) from sg32 _ hN1 hN2)
        obtain ⟨N, hN⟩ : ∃ N, leN (bsAt bs A 4) = N := ⟨_, rfl⟩
        rw [hN] at hN1 hN2 HR ⊢
        clear hN
        by_cases hN : 2147483647 < N
        all_goals go_wp2_with (go_at_call 32; refine (ends_all _ _).mono ?_; rw [show loE 5 = -2147483648 from rfl, show hiE 5 = 2147483647 from rfl]; rintro _ _ ⟨rfl, rfl⟩)
        all_goals go_ret
        all_goals exact ⟨ret_int (by rw [HR.out]; (first | (rw [if_pos (by omega)]; done) | (rw [if_neg (by omega)]; done) | (rw [if_pos (by omega)]; omega))), rfl⟩
      · have := HK.out; rw [(kinds_no hk).1] at this; cases this
    | succ q =>
      have hbn := bsAt_in HH.out.2 A W q
      have hst := leN_step (bs := bs) (A := A) (W := W) (q := q) hAW (by omega)
      obtain ⟨b, off, rfl, hbl, hcell⟩ := HH.out.pos (by omega)
      have hc := hcell (A + q) (by omega)
      have hz := bounds_u8 (HH.out.2 (bs.getD (A + q) 0) (by rw [List.getD_eq_getElem?_getD, List.getElem?_eq_getElem (by omega)]; exact List.getElem_mem _))
      have hp1 : (256 : Int) ^ (W - (q + 1)) ≤ 256 ^ 4 := pow256 (by omega)
      have hp2 : (256 : Int) ^ (W - q) ≤ 256 ^ 4 := pow256 (by omega)
      generalize leN ((bsAt bs A W).drop (q + 1)) = N at *
      have HS := Lib.hid hst
      generalize bs.getD (A + q) 0 = z at *
      have hN1 : 0 ≤ N := hbnd.1
      have hN2 : N < 4294967296 := by have := hbnd.2; omega
      have hz1 := hz.1
      have hz2 := hz.2
      have hq1 : ((q + 1 : Nat) : Int) - 1 = (q : Int) := by omega
      rw [hq1]
      have hA1 : ((A : Int) + q).toNat = A + q := by omega
      have hA2 : (A : Int) + q < bs.length := by omega
      clear hcell hbnd hbn hst hp1 hp2 hz hq1
      go_wp2_with fail
      go_round
      case rel => exact ⟨q, by omega, rfl, by rw [HS.out]; go_num⟩
      case measure => simp [intOf]
end Go.Proofs.Ytgbcngmciabpkaa
