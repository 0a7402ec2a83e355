/- Contract of fetch.vertex. Conditions: each theorem's own premises. -/
import Derived.Test.YtgbcngmciabpkaaFet5
import Derived.Test.YtgbcngmciabpkaaRgs
import Derived.Deep.RegionHeld3
import Derived.Deep.DrawnRows
namespace Go.Proofs.Ytgbcngmciabpkaa
open Go.RowKit Go.ChangeShapes
set_option linter.unusedVariables false

theorem rd_pack (k : Int) (h : 0 < wdR k) : ∃ F : Nat, rdR k = .func (.func F) #[] #[] ∧ (∀ args w, (callFunc F args).run Try.prog w = .ok (.enter F args) w) ∧
    ∀ (p : Nat) (bs : List Int) (at_ : Nat) (er : Int) (w : World), RdAt w p bs at_ er → bs.length ≤ 140737488355328 → Calls Try.prog F #[.pointer (some ⟨p, 0, none⟩)] w fun e w' =>
      e = .returned (.int .i64 (rdV k (takeR bs at_ er (wdR k)).1)) ∧ RdAt w' p bs (takeR bs at_ er (wdR k)).2.1 (takeR bs at_ er (wdR k)).2.2 ∧ Chg [p] w w' := by
  rcases kinds k with rfl | rfl | rfl | rfl | rfl | hk
  · exact ⟨_, rfl, enters_of Try.func36 (by kernel_rfl) rfl, fun p bs at_ er w hr hb => rd1 p bs at_ er w hr hb⟩
  · exact ⟨_, rfl, enters_of Try.func38 (by kernel_rfl) rfl, fun p bs at_ er w hr hb => rd2 p bs at_ er w hr hb⟩
  · exact ⟨_, rfl, enters_of Try.func40 (by kernel_rfl) rfl, fun p bs at_ er w hr hb => rd3 p bs at_ er w hr hb⟩
  · exact ⟨_, rfl, enters_of Try.func42 (by kernel_rfl) rfl, fun p bs at_ er w hr hb => rd4 p bs at_ er w hr hb⟩
  · exact ⟨_, rfl, enters_of Try.func44 (by kernel_rfl) rfl, fun p bs at_ er w hr hb => rd5 p bs at_ er w hr hb⟩
  · rw [(kinds_no hk).1] at h; cases h
theorem take_in {bs : List Int} {A W : Nat} (h : A + W ≤ bs.length) : takeR bs A 0 (W : Int) = (bsAt bs A W, A + W, 0) := by
  unfold takeR
  rw [if_neg (by decide), if_neg (by omega), if_neg (by omega)]
  rfl
theorem bsAt_two (bs : List Int) (A n j W : Nat) (h : j + W ≤ n) : bsAt (bsAt bs A n) j W = bsAt bs (A + j) W := by
  unfold bsAt
  rw [List.drop_take, List.drop_drop, List.take_take, Nat.min_eq_left (by omega)]
theorem bsAt_len {bs : List Int} {A W : Nat} (h : A + W ≤ bs.length) : (bsAt bs A W).length = W := by unfold bsAt; rw [List.length_take, List.length_drop]; omega
theorem rd_in {k : Int} (h : 0 < wdR k) (l : List Int) : loR k ≤ rdV k l ∧ rdV k l ≤ hiR k := by
  rcases kinds k with rfl | rfl | rfl | rfl | rfl | hk
  · exact bounds_i8 (wf_wrap .i8 (leN l))
  · exact bounds_u8 (wf_wrap .u8 (leN l))
  · exact bounds_i16 (wf_wrap .i16 (leN l))
  · exact bounds_u16 (wf_wrap .u16 (leN l))
  · exact bounds_i32 (wf_wrap .i32 (leN l))
  · rw [(kinds_no hk).1] at h; cases h
theorem num_ok {k : Int} (h : 0 < wdR k) (nm : Bool) (l : List Int) : (numR k nm (rdV k l)).2 = 0 := by
  obtain ⟨h1, h2⟩ := rd_in h l
  unfold numR
  rw [if_neg (by omega)]
  split
  · rfl
  · split <;> rfl

/-- Where a vertex stands. -/
def stp (a : Arr) : Int := if a.st = 0 then a.sz * wdR a.kd else a.st
def atV (a : Arr) (i : Int) : Int := a.of + i * stp a
def vxOk (bs : List Int) (a : Arr) (i : Int) : Bool := decide (atV a i + a.sz * wdR a.kd ≤ bs.length)
def numAt (bs : List Int) (a : Arr) (i : Int) (j : Nat) : Int := (numR a.kd a.nm (rdV a.kd (bsAt bs ((atV a i).toNat + j * (wdR a.kd).toNat) (wdR a.kd).toNat))).1
/-- The vertex, m components being read. -/
def vxL (bs : List Int) (a : Arr) (i : Int) (m : Nat) : List Int := (List.range 4).map fun j => if j < m then numAt bs a i j else if j = 3 then 65536 else 0
theorem vxL_len (bs : List Int) (a : Arr) (i : Int) (m : Nat) : (vxL bs a i m).length = 4 := by simp [vxL]
theorem vxL_set (bs : List Int) (a : Arr) (i : Int) (m : Nat) (hm : m < 4) : (vxL bs a i m).set m (numAt bs a i m) = vxL bs a i (m + 1) := by
  have : m = 0 ∨ m = 1 ∨ m = 2 ∨ m = 3 := by omega
  rcases this with rfl | rfl | rfl | rfl <;> rfl
theorem arr_parts {a : Arr} (h : arrOk a = true) : 1 ≤ a.sz ∧ a.sz ≤ 4 ∧ 0 < wdR a.kd ∧ 0 ≤ a.st ∧ a.st ≤ 255 ∧ 0 ≤ a.of ∧ a.of ≤ 262144 := by
  unfold arrOk at h
  simp only [Bool.and_eq_true, decide_eq_true_eq] at h
  omega
def vZ : List Int := [0, 0, 0, 0]
/-- A vertex in its block. -/
def vC (L : List Int) : List Value := L.map (Value.int .i32)
def VcAt (w : World) (b : Nat) (L : List Int) : Prop := w.heap[b]? = some (.cells (vC L).toArray 29 (0, 0))
theorem VcAt.ext {w w' : World} {b : Nat} {L : List Int} (h : VcAt w b L) (x : Ext w w') : VcAt w' b L := x.heap h
theorem VcAt.chg {M : List Nat} {w w' : World} {b : Nat} {L : List Int} (h : VcAt w b L) (x : Chg M w w') (hm : b ∉ M) : VcAt w' b L := x.heap h hm
theorem VcAt.cell {w : World} {b : Nat} {L : List Int} (h : VcAt w b L) (j : Nat) (hj : j < L.length) : w.cell? ⟨b, j, none⟩ = some (.int .i32 (L.getD j 0)) :=
  cell_of_heap h (by simp [vC, List.getD_eq_getElem?_getD, List.getElem?_eq_getElem hj])
theorem VcAt.set {w : World} {b : Nat} {L : List Int} (h : VcAt w b L) (j : Nat) (x : Int) : VcAt (w.setCell ⟨b, j, none⟩ (.int .i32 x)) b (L.set j x) := by
  unfold VcAt
  rw [heap_set h]
  simp [vC, List.map_set]
theorem Ld_Vc (v : Value) : Instr.loadAt 29 v = @Classical.epsilon _ neF (LdF 29 v) := LdF_eq _ _
theorem St_Vc (v u : Value) : Instr.storeAt 29 v u = @Classical.epsilon _ neG (StF 29 v u) := StF_eq _ _ _
theorem vC_len (L : List Int) : (vC L).length = L.length := by simp [vC]
theorem vC_one (L : List Int) : (vC L).toArray.all (·.oneCell') = true := by simp [vC, Value.oneCell']
theorem info_vec : (Try.prog.info? 29).map (·.size) = some 4 := by kernel_rfl
theorem VcAt.load {w : World} {b : Nat} {L : List Int} (h : VcAt w b L) (hl : L.length = 4) : (@Classical.epsilon _ neF (LdF 29 (.pointer (some ⟨b, 0, none⟩)))).run Try.prog w = .ok (.agg (vC L).toArray) w :=
  ldF_whole _ h Try.underlying29 rfl (by rw [vC_len, hl]; exact info_vec)
theorem VcAt.put {w : World} {b : Nat} {L : List Int} (h : VcAt w b L) (hl : L.length = 4) (L2 : List Int) (hl2 : L2.length = 4) :
    ∃ w', (@Classical.epsilon _ neG (StF 29 (.pointer (some ⟨b, 0, none⟩)) (.agg (vC L2).toArray))).run Try.prog w = .ok () w' ∧ VcAt w' b L2 ∧ Chg [b] w w' := by
  obtain ⟨h1, h2, h3⟩ := stF_mid 29 h 0 (vC L2) (by rw [vC_len, vC_len, hl, hl2]; decide) (by rw [vC_len, hl2]; exact info_vec) (vC_one L2)
  refine ⟨_, h1, ?_, h3⟩
  unfold VcAt
  rw [h2]
  rw [List.take_zero, List.nil_append, Nat.zero_add, List.drop_eq_nil_of_le (by rw [vC_len, vC_len, hl, hl2]; decide), List.append_nil]
theorem newV (w : World) (L2 : List Int) (hl2 : L2.length = 4) :
    ∃ w', (@Classical.epsilon _ neG (StF 29 (.pointer (some ⟨w.heap.size, 0, none⟩)) (.agg (vC L2).toArray))).run Try.prog (w.alloc (.cells #[.int .i32 0, .int .i32 0, .int .i32 0, .int .i32 0] 29)) = .ok () w' ∧ VcAt w' w.heap.size L2 ∧ Ext w w' := by
  have h : VcAt (w.alloc (.cells #[.int .i32 0, .int .i32 0, .int .i32 0, .int .i32 0] 29)) w.heap.size vZ := heap_alloc_new _ _
  obtain ⟨w', h1, h2, h3⟩ := h.put rfl L2 hl2
  exact ⟨w', h1, h2, ((Ext.refl _).alloc _).chgTrans h3 (by simp)⟩
theorem VcAt.ret {w : World} {b : Nat} {L : List Int} (h : VcAt w b L) (hl : L.length = 4) : (loadVar 29 ⟨b, 0, none⟩).run Try.prog w = .ok (.agg (vC L).toArray) w :=
  run_loadVar_whole 29 _ h Try.underlying29 rfl (by rw [List.size_toArray, vC_len, hl]; exact info_vec)
/-- A reader does not lie in a vertex. -/
theorem RdAt.chgV {w w' : World} {p q : Nat} {bs : List Int} {at_ : Nat} {er : Int} {L : List Int} (h : RdAt w p bs at_ er) (hv : VcAt w q L) (hpq : p ≠ q) (hc : Chg [q] w w') : RdAt w' p bs at_ er := by
  obtain ⟨v, h1, h2, h3⟩ := h
  refine ⟨v, hc.heap h1 (by simpa using hpq), h2.chg hc ?_, h3⟩
  intro b hb h0 hm
  simp at hm
  subst hm
  obtain ⟨⟨_, a, cap, rfl, _, _, _, hp⟩, _⟩ := h2
  obtain ⟨b', off, rfl, _, hcell⟩ := hp h0
  simp [Value.ownBlock] at hb
  subst hb
  have := hcell 0 (.int .u8 (bs.getD 0 0)) (by
    cases bs with
    | nil => simp at h0
    | cons z l => simp)
  unfold VcAt at hv
  simp only [World.cell?, hv] at this
  simp [vC] at this
/-- What vertex answers. -/
def vxV (bs : List Int) (a : Arr) (i : Int) : List Int := if vxOk bs a i then vxL bs a i a.sz.toNat else vZ
def vxE (bs : List Int) (a : Arr) (i : Int) : Int := if vxOk bs a i then 0 else 7

attribute [local go_sem ↓] Go.wp_at_zero Go.wp_at_succ Ld_Vc St_Vc
set_option maxHeartbeats 2000000 in
set_option maxRecDepth 100000 in
theorem vertex_any (v : Value) (bs : List Int) (a : Arr) (i : Int) (w : World) (h : Ints .u8 w v bs) (hb : bs.length ≤ 100000) (ha : arrOk a = true) (hi1 : 0 ≤ i) (hi2 : i ≤ 100000) :
    Calls Try.prog 27 #[v, .agg a.C.toArray, .int .i64 i] w fun e w' => e = .returned (.tuple #[.agg (vC (vxV bs a i)).toArray, .int .i64 (vxE bs a i)]) ∧ Ext w w' := by
  obtain ⟨hs1, hs2, hw0, ht1, ht2, ho1, ho2⟩ := arr_parts ha
  obtain ⟨w2, hw2, haa, hvv, hx⟩ : ∃ w2, (w.alloc (.cells a.C.toArray 24)).alloc (.cells #[.int .i32 0, .int .i32 0, .int .i32 0, .int .i32 0] 29) = w2 ∧ AAt w2 w.heap.size a ∧ VcAt w2 (w.heap.size + 1) vZ ∧ Ext w w2 :=
    ⟨_, rfl, (heap_pair _ _ _).1, (heap_pair _ _ _).2, ((Ext.refl _).alloc _).alloc _⟩
  have HW := Lib.hid hw2
  have HIN := Lib.hid (h.ext hx)
  obtain ⟨⟨_, av, cap, rfl, hc1, hc2, _, _⟩, _⟩ := h
  have HA := Lib.hid haa
  have HV := Lib.hid hvv
  have HX := Lib.hid hx
  clear hw2 haa hvv hx
  go_enter Try.func27, Try.ntmps27
  go_upto_region 1 with fail
  rw [HW.out]
  generalize hb0 : w.heap.size = b0 at *
  have HB0 := Lib.hid hb0
  clear hb0 HW
  have c1 : w2.cell? ⟨b0, 1, none⟩ = some (.int .i64 a.kd) := cell_of_heap HA.out rfl
  have n0 := heap_lt HA.out
  go_upto_region 2 with (first | (go_at_call 29; refine (of_any _ _).mono ?_; rintro _ w3 ⟨rfl, hx3⟩; have HX3 := Lib.hid hx3; clear hx3) | (refine wpList_store_whole rfl 69 _ _ rfl w3.heap.size (shC a.kd).toArray rfl rfl _ 69 (heap_alloc_new _ _) rfl (by kernel_rfl) (shC_one a.kd) ?_; intro w4 hw4 hc4; have HC4 := Lib.hid hc4; have HW4 := Lib.hid hw4; clear hc4 hw4))
  have HX4 := Lib.hid (Ext.chgTrans (HX3.out.alloc _) HC4.out (by simp; exact HX3.out.size))
  obtain ⟨W, hW, hW1, hW4⟩ := wd_nat hw0
  obtain ⟨F, hF, hFe, hFc⟩ := rd_pack a.kd hw0
  obtain ⟨S, hS⟩ : ∃ S, stp a = S := ⟨_, rfl⟩
  obtain ⟨n, hn⟩ : ∃ n, a.sz * wdR a.kd = n := ⟨_, rfl⟩
  have hn1 : 1 ≤ n ∧ n ≤ 16 := by
    rw [← hn, hW]
    have : a.sz = 1 ∨ a.sz = 2 ∨ a.sz = 3 ∨ a.sz = 4 := by omega
    rcases this with h | h | h | h <;> rw [h] <;> omega
  have hS1 : 1 ≤ S ∧ S ≤ 255 := by
    rw [← hS]
    unfold stp
    split
    · rw [hn]; omega
    · omega
  obtain ⟨P, hP⟩ : ∃ P, i * S = P := ⟨_, rfl⟩
  have hP1 : 0 ≤ P ∧ P ≤ 25500000 := by
    rw [← hP]
    exact ⟨Int.mul_nonneg hi1 (by omega), Int.le_trans (Int.mul_le_mul hi2 hS1.2 (by omega) (by decide)) (by decide)⟩
  have HAT := Lib.hid (show atV a i = a.of + P by unfold atV; rw [hS, hP])
  have HOK := Lib.hid (show vxOk bs a i = decide (a.of + P + n ≤ bs.length) by unfold vxOk; rw [HAT.out, hn])
  have HSS := Lib.hid (show stp a = if a.st = 0 then n else a.st by unfold stp; rw [hn])
  have HS := Lib.hid hS
  have HN := Lib.hid hn
  have HWD := Lib.hid hW
  have HFF := Lib.hid hF
  have HA4 := Lib.hid (HA.out.ext HX4.out)
  have HV4 := Lib.hid (HV.out.ext HX4.out)
  have HIN4 := Lib.hid (HIN.out.ext HX4.out)
  have HXX := Lib.hid (HX.out.trans HX4.out)
  have HFC := Lib.hid hFc
  have HFE := Lib.hid hFe
  have hbs := HX3.out.size
  have hbn := heap_lt HV.out
  have hbn4 := HX4.out.size
  obtain ⟨hn1, hn2⟩ := hn1
  obtain ⟨hP1, hP2⟩ := hP1
  obtain ⟨hS1, hS2⟩ := hS1
  clear HX3 HC4 HX4 HA HV HIN HX c1 n0 hS hn hF hFc hFe
  clear hW
  generalize w3.heap.size = bq at *
  have c0 : w4.cell? ⟨b0, 0, none⟩ = some (.int .i64 a.sz) := cell_of_heap HA4.out rfl
  have c3 : w4.cell? ⟨b0, 3, none⟩ = some (.int .i64 a.st) := cell_of_heap HA4.out rfl
  have c4 : w4.cell? ⟨b0, 4, none⟩ = some (.int .i64 a.of) := cell_of_heap HA4.out rfl
  have e0 : w4.cell? ⟨bq, 0, none⟩ = some (.int .i64 (wdR a.kd)) := cell_of_heap HW4.out rfl
  rw [HWD.out] at e0
  have hnn : a.sz * (W : Int) = n := by rw [← HWD.out]; exact HN.out
  have n4 := heap_lt HA4.out
  have nq := heap_lt HW4.out
  go_upto_if 28 with fail
  clear hnn
  go_cut [10] (fun x wc => x = .int .i64 S ∧ w4 = wc)
  case first =>
    have HSS' := Lib.hid (show S = if a.st = 0 then n else a.st by rw [← HS.out]; exact HSS.out)
    clear hP
    by_cases h0 : a.st = 0
    · have h0' := Lib.hid h0
      rw [h0]
      clear h0 ht1 ht2 c3
      go_wp2_with fail
      go_meet
      exact ⟨congrArg (Value.int .i64) (by rw [HSS'.out, if_pos h0'.out]), rfl⟩
    · have h0' := Lib.hid h0
      have h0b : (a.st == 0) = false := by simpa using h0
      clear h0
      go_wp2_with fail
      go_meet
      exact ⟨congrArg (Value.int .i64) (by rw [HSS'.out, if_neg h0'.out]), rfl⟩
  case rest =>
    obtain ⟨rfl, rfl⟩ := hcut
    go_upto_region 7 with fail
    clear c3 e0 c4
    obtain ⟨A, hA⟩ : ∃ A : Nat, a.of + P = (A : Int) := ⟨(a.of + P).toNat, by omega⟩
    rw [hA]
    have HAA := Lib.hid hA
    have hA1 : A ≤ 30000000 := by omega
    obtain ⟨N, hN⟩ : ∃ N : Nat, n = (N : Int) := ⟨n.toNat, by omega⟩
    subst hN
    have HOK2 := Lib.hid (show vxOk bs a i = decide (A + N ≤ bs.length) by rw [HOK.out, hA]; exact decide_eq_decide.2 (by omega))
    clear hA hP
    by_cases hok : A + N ≤ bs.length
    · have HVE := Lib.hid (show vxOk bs a i = true by rw [HOK2.out]; exact decide_eq_true hok)
      obtain ⟨w5, hst, h5, hx5⟩ := newV w4 (vxL bs a i 0) (vxL_len _ _ _ _)
      have hst : (@Classical.epsilon _ neG (StF 29 (.pointer (some ⟨w4.heap.size, 0, none⟩)) (.agg #[.int .i32 0, .int .i32 0, .int .i32 0, .int .i32 65536]))).run Try.prog (w4.alloc (.cells #[.int .i32 0, .int .i32 0, .int .i32 0, .int .i32 0] 29)) = .ok () w5 := hst
      have H5 := Lib.hid h5
      have HX5 := Lib.hid hx5
      clear h5 hx5
      go_upto_region 10 with fail
      clear hst
      have hbl := bsAt_len hok
      have HSL : Hid (Ints .u8 w5 (.slice (av.map (·.add A)) N (cap - A)) (bsAt bs A N)) := by
        have := (HIN4.out.ext HX5.out).cut A (A + N) (by omega) hok
        rw [Nat.add_sub_cancel_left, if_neg (by omega)] at this
        exact this
      have HBL := Lib.hid hbl
      have hs1 : (A : Int) + N ≤ cap := by omega
      have hs2 : ((A : Int) + N).toNat = A + N := by omega
      have hs3 : ¬ cap = A := by omega
      have hs4 : 0 ≤ (A : Int) + N := by omega
      unfold maxLen at hc2
      clear hbl
      go_upto_region 11 with (go_at_call 35; refine (read_any _ (bsAt bs A N) _ HSL.out (by rw [HBL.out]; omega)).mono ?_; rintro _ w6 ⟨p, rfl, hp, hrd, hx6⟩; have HRD := Lib.hid hrd; have HX6 := Lib.hid hx6; clear hrd hx6)
      have HX46 := Lib.hid (HX5.out.trans HX6.out)
      have HA6 := Lib.hid (HA4.out.ext HX46.out)
      have HV6 := Lib.hid (HV4.out.ext HX46.out)
      have H6 := Lib.hid (H5.out.ext HX6.out)
      have HW6 := Lib.hid (HX46.out.heap HW4.out)
      have HX6' := Lib.hid (HXX.out.trans HX46.out)
      have hbv := heap_lt H5.out
      have hsz6 := HRD.out.lt
      generalize w4.heap.size = bv at *
      clear HX46 HA4 HV4 H5 HX5 HX6 HW4 HXX HSL HIN4 hs1 hs2 hs3 hs4
      obtain ⟨SZ, hSZ⟩ : ∃ SZ : Nat, a.sz = (SZ : Int) := ⟨a.sz.toNat, by omega⟩
      have HSZ := Lib.hid hSZ
      have hprod : SZ * W = N := by
        have := HN.out
        rw [hSZ, HWD.out] at this
        exact_mod_cast this
      have HPR := Lib.hid hprod
      have hSZ1 : 1 ≤ SZ := by omega
      have hSZ4 : SZ ≤ 4 := by omega
      have c0 : w6.cell? ⟨b0, 0, none⟩ = some (.int .i64 a.sz) := cell_of_heap HA6.out rfl
      rw [hSZ] at c0
      have n6 := heap_lt HA6.out
      clear hprod hSZ hs1 hs2
      go_wp2_with fail
      go_loopw [59] (fun u wr => ∃ m : Nat, m ≤ SZ ∧ u = .int .i64 m ∧ RdAt wr p (bsAt bs A N) (m * W) 0 ∧ VcAt wr bv (vxL bs a i m) ∧ Chg [p, bv] w6 wr) (fun u _ => SZ - (intOf u).toNat)
      case atStart => exact ⟨0, Nat.zero_le _, rfl, by rw [Nat.zero_mul]; exact HRD.out, H6.out, Chg.refl _ _⟩
      case round =>
        rename World => wr
        obtain ⟨m, hm, rfl, hrd, hvc, hch⟩ := hrel
        have HRD' := Lib.hid hrd
        have HVC := Lib.hid hvc
        have HCH := Lib.hid hch
        clear hrd hvc hch
        by_cases hlt : m < SZ
        · have hmw : m * W + W ≤ N := by
            rw [← HPR.out, ← Nat.succ_mul]
            exact Nat.mul_le_mul_right W hlt
          obtain ⟨x, hx⟩ : ∃ x, rdV a.kd (bsAt bs (A + m * W) W) = x := ⟨_, rfl⟩
          obtain ⟨y, hy⟩ : ∃ y, (numR a.kd a.nm x).1 = y := ⟨_, rfl⟩
          have HRC : Hid (∀ w', RdAt w' p (bsAt bs A N) (m * W) 0 → Calls Try.prog F #[.pointer (some ⟨p, 0, none⟩)] w' fun e w'' => e = .returned (.int .i64 x) ∧ RdAt w'' p (bsAt bs A N) ((m + 1) * W) 0 ∧ Chg [p] w' w'') := Lib.hid (fun w' hr => by
            have := HFC.out p _ _ _ w' hr (by rw [HBL.out]; omega)
            rw [HWD.out, take_in (by rw [HBL.out]; exact hmw), bsAt_two _ _ _ _ _ hmw, hx] at this
            rw [Nat.succ_mul]
            exact this)
          have HNM : Hid (∀ w', Calls Try.prog 15 #[.int .i64 a.kd, .bool a.nm, .int .i64 x] w' fun e w'' => e = .returned (.tuple #[.int .i32 y, .int .i64 0]) ∧ Ext w' w'') := Lib.hid (fun w' => by
            have := num_any a.kd a.nm x w'
            rw [hy, ← hx, num_ok hw0] at this
            rw [← hx]
            exact this)
          have HY := Lib.hid (show numAt bs a i m = y by
            unfold numAt
            rw [HAT.out, HAA.out, HWD.out]
            show (numR a.kd a.nm (rdV a.kd (bsAt bs (A + m * W) W))).1 = y
            rw [hx, hy])
          have hml : (m : Int) < (SZ : Int) := by omega
          have hm4 : m < 4 := by omega
          clear hx hy hlt
          have g1 : wr.drew.cell? ⟨b0, 1, none⟩ = some (.int .i64 a.kd) := cell_of_heap ((HA6.out.chg HCH.out (by simp; omega)).ext (Ext.refl _).drew) rfl
          have g2 : wr.drew.cell? ⟨b0, 2, none⟩ = some (.bool a.nm) := cell_of_heap ((HA6.out.chg HCH.out (by simp; omega)).ext (Ext.refl _).drew) rfl
          have g3 : wr.drew.cell? ⟨bq, 3, none⟩ = some (rdR a.kd) := cell_of_heap ((Ext.refl wr).drew.heap (HCH.out.heap HW6.out (by simp; omega))) rfl
          rw [HFF.out] at g3
          have hF1 := HFE.out
          have n0r : b0 < wr.heap.size := by have := HCH.out.size; omega
          have nqr : bq < wr.heap.size := by have := HCH.out.size; omega
          have hbp1 : b0 ≠ p := by omega
          have hbp2 : bq ≠ p := by omega
          go_upto_region 14 with fail
          go_region_held3 (fun w' => w'.cell? (⟨b0, 1, none⟩ : Addr) = some (.int .i64 a.kd) ∧ w'.cell? (⟨b0, 2, none⟩ : Addr) = some (.bool a.nm) ∧ w'.cell? (⟨bq, 3, none⟩ : Addr) = some (.func (.func F) #[] #[])) (go_keep) (first | (go_at_call 15; refine (HNM.out _).mono ?_; rintro _ w10 ⟨rfl, hx10⟩; have g11 := hx10.cell g91; have g12 := hx10.cell g92; have g13 := hx10.cell g93) | (refine (HRC.out _ (HRD'.out.ext (Ext.refl _).drew)).mono ?_; rintro _ w9 ⟨rfl, hrd9, hc9⟩; have g91 := hc9.cell (by simp; omega) g1; have g92 := hc9.cell (by simp; omega) g2; have g93 := hc9.cell (by simp; omega) g3))
          have HC10 := Lib.hid (((HCH.out.trans ((Ext.refl _).drew.chg _)).trans (hc9.mono (N := [p, bv]) (by simp))).ext2 hx10)
          have hvc10 := (((HVC.out.ext (Ext.refl _).drew).chg hc9 (by simp; omega)).ext hx10)
          have hrd10 := hrd9.ext hx10
          have cm := hvc10.cell m (by rw [vxL_len]; exact hm4)
          have fm : w10.frozen? ⟨bv, m, none⟩ = false := free_of_heap hvc10
          have hc11 : Chg [bv] w10 (w10.setCell ⟨bv, m, none⟩ (.int .i32 y)) := (Chg.refl _ _).setCell (by simp) _
          have HRD11 := Lib.hid (hrd10.chgV hvc10 (by omega) hc11)
          have HVC11 : Hid (VcAt (w10.setCell ⟨bv, m, none⟩ (.int .i32 y)) bv (vxL bs a i (m + 1))) := by
            have := hvc10.set m y
            rw [← HY.out, vxL_set _ _ _ _ hm4, HY.out] at this
            exact this
          have HC11 := Lib.hid (HC10.out.trans (hc11.mono (N := [p, bv]) (by simp)))
          have n10 := heap_lt hvc10
          clear hc9 hx10 hvc10 hrd10 hrd9 hc11 g1 g2 g3 g91 g92 g93 g11 g12 g13
          go_wp2_with fail
          go_roundw
          case rel => exact ⟨m + 1, by omega, by go_num, HRD11.out, HVC11.out, HC11.out⟩
          case measure => simp [intOf]; omega
        · obtain rfl : m = SZ := by omega
          have hld := HVC.out.load (vxL_len _ _ _ _)
          have nv := heap_lt HVC.out
          have HVR := HV6.out.chg HCH.out (by simp; omega)
          obtain ⟨w7, hst, h7, hc7⟩ := HVR.put rfl (vxL bs a i m) (vxL_len _ _ _ _)
          have H7 := Lib.hid h7
          have HX7 := Lib.hid ((HX6'.out.chgTrans HCH.out (by simp; have := HX6'.out.size; have := HB0.out; omega)).chgTrans hc7 (by simp; have := HB0.out; omega))
          clear h7 hc7 HVR
          go_wp2_with fail
          refine bodyPost_ret (results_cellT rfl _ _ ⟨b0 + 1, 0, none⟩ _ rfl (H7.out.ret (vxL_len _ _ _ _)) _ rfl) rfl ?_
          exact ⟨by unfold vxV vxE; rw [HVE.out, HSZ.out]; rfl, HX7.out⟩
    · have HVE := Lib.hid (show vxOk bs a i = false by rw [HOK2.out]; exact decide_eq_false hok)
      obtain ⟨w5, hst, h5, hc5⟩ := HV4.out.put rfl vZ rfl
      have hst : (@Classical.epsilon _ neG (StF 29 (.pointer (some ⟨b0 + 1, 0, none⟩)) (.agg #[.int .i32 0, .int .i32 0, .int .i32 0, .int .i32 0]))).run Try.prog w4 = .ok () w5 := hst
      have H5 := Lib.hid h5
      have HC5 := Lib.hid hc5
      clear h5 hc5
      by_cases hA2 : bs.length < A
      all_goals go_wp2_with fail
      all_goals refine bodyPost_ret (results_cellT rfl _ _ ⟨b0 + 1, 0, none⟩ _ rfl (H5.out.ret rfl) _ rfl) rfl ?_
      all_goals exact ⟨by unfold vxV vxE; rw [HVE.out]; rfl, HXX.out.chgTrans HC5.out (by simp; rw [HB0.out]; omega)⟩
end Go.Proofs.Ytgbcngmciabpkaa
