/- The walk of NamesBind. Conditions: each theorem's own premises. -/
import Derived.Test.YtdomijfkpbganaaNam4
namespace Go.Proofs.Ytdomijfkpbganaa
open Go.RowKit
set_option linter.unusedVariables false

theorem flat_at {α : Type} (f : α → List Value) (sz : Nat) (hf : ∀ x, (f x).length = sz) : ∀ (l : List α) (i : Nat) (x : α), l[i]? = some x → ∀ j u, (f x)[j]? = some u → (l.map f).flatten[i * sz + j]? = some u
  | [], i, x, h => by simp at h
  | y :: l, 0, x, h => by
    intro j u hu
    have : y = x := by simpa using h
    subst this
    have hj := (List.getElem?_eq_some_iff.1 hu).1
    rw [List.map_cons, List.flatten_cons, Nat.zero_mul, Nat.zero_add, List.getElem?_append_left hj]
    exact hu
  | y :: l, i + 1, x, h => by
    intro j u hu
    rw [List.map_cons, List.flatten_cons, List.getElem?_append_right (by rw [hf, Nat.succ_mul]; omega), hf]
    have e : (i + 1) * sz + j - sz = i * sz + j := by rw [Nat.succ_mul]; omega
    rw [e]
    exact flat_at f sz hf l i x (by simpa using h) j u hu

theorem OpsAt.pos {w : World} {v : Value} {os : List (Int × Int)} (h : OpsAt w v os) (h0 : 0 < os.length) : ∃ b off cap, v = .slice (some ⟨b, off, none⟩) os.length cap ∧ b < w.heap.size ∧ cap ≤ 9223372036854775807 ∧
    ∀ i o, os[i]? = some o → w.cell? ⟨b, off + i * 2, none⟩ = some (.int .i64 o.1) ∧ w.cell? ⟨b, off + i * 2 + 1, none⟩ = some (.int .i64 o.2) := by
  obtain ⟨hl, a, cap, rfl, h1, h2, h3, h4⟩ := h
  obtain ⟨b, off, rfl, hb, hc⟩ := h4 h0
  exact ⟨b, off, cap, rfl, hb, h2, fun i o ho => ⟨hc _ _ (flat_at _ 2 (fun _ => rfl) os i o ho 0 _ rfl), by have := hc _ _ (flat_at _ 2 (fun _ => rfl) os i o ho 1 _ rfl); rwa [← Nat.add_assoc] at this⟩⟩

theorem OpsAt.ext {w w' : World} {v : Value} {os : List (Int × Int)} (h : OpsAt w v os) (x : Ext w w') : OpsAt w' v os := SlC.ext h x

theorem ops_arg {W : World} {v : Value} (h : ArgIs Try.prog W 22 v) : ∃ os, OpsAt W v os := by
  obtain ⟨css, h1, h2⟩ := h.elems 5 (ls := [.int .i64, .int .i64]) Try.underlying22 (by kernel_rfl) (by kernel_rfl) (by decide)
  have key : ∀ css : List (List Value), (∀ cs ∈ css, Fits (CellIs Try.prog W) [.int .i64, .int .i64] cs) → ∃ os : List (Int × Int), os.length = css.length ∧ (os.map fun o => [Value.int .i64 o.1, Value.int .i64 o.2]) = css := by
    intro css
    induction css with
    | nil => intro _; exact ⟨[], rfl, rfl⟩
    | cons cs css ih =>
      intro h
      obtain ⟨os, e1, e2⟩ := ih fun c hc => h c (by simp [hc])
      obtain ⟨u, us, rfl, ⟨a, rfl, _⟩, k2⟩ := (h cs (by simp)).cons_inv
      obtain ⟨u, us, rfl, ⟨b, rfl, _⟩, k3⟩ := k2.cons_inv
      have := k3.nil_inv
      subst this
      exact ⟨(a, b) :: os, by simp [e1], by simp [e2]⟩
  obtain ⟨os, e1, e2⟩ := key css h2
  refine ⟨os, ?_⟩
  unfold OpsAt
  rw [e1, e2]
  exact h1

/-- Names stand well: the bound one is an object. -/
def Inv (st : List Int) (bd : Int) : Prop := bd = 0 ∨ (isName bd = true ∧ stOf st bd = 2)

theorem stOf_set (st : List Int) (h : st.length = 65) (i j x : Int) (hi : isName i = true) (hj : isName j = true) : stOf (st.set i.toNat x) j = if i = j then x else stOf st j := by
  have h1 : 1 ≤ i ∧ i ≤ 64 := by simpa [isName] using hi
  have h2 : 1 ≤ j ∧ j ≤ 64 := by simpa [isName] using hj
  unfold stOf
  rw [if_pos hj, if_pos hj, List.getD_eq_getElem?_getD, List.getD_eq_getElem?_getD, List.getElem?_set]
  by_cases e : i = j
  · subst e
    have h65 : i.toNat < st.length := by omega
    simp [h65]
  · have : i.toNat ≠ j.toNat := by omega
    simp [e, this]
theorem stOf_none (st : List Int) (i : Int) (h : isName i = false) : stOf st i = 0 := by simp [stOf, h]

theorem genR_mark (st : List Int) (c : Int) : ∃ l : List Nat, (genR st c).2.2 = markL st l ∧ ∀ k ∈ l, st.getD k 0 = 0 := by
  unfold genR
  split
  · exact ⟨[], rfl, by simp⟩
  · split
    · exact ⟨[], rfl, by simp⟩
    · exact ⟨_, rfl, fun k hk => ((freeL_mem st 64 k).1 (List.mem_of_mem_take hk)).2.2⟩
theorem Inv.gen {st : List Int} {bd : Int} (h : Inv st bd) (c : Int) : Inv (genR st c).2.2 bd := by
  rcases h with h | ⟨h1, h2⟩
  · exact .inl h
  · refine .inr ⟨h1, ?_⟩
    obtain ⟨l, e, hl⟩ := genR_mark st c
    rw [e]
    unfold stOf at h2 ⊢
    rw [if_pos h1] at h2 ⊢
    rw [markL_getD l st _ (fun hm => by have := hl _ hm; omega)]
    exact h2
theorem Inv.bind {st : List Int} {bd : Int} (hl : st.length = 65) (h : Inv st bd) (i : Int) : Inv (bindR st bd i).2.2.1 (bindR st bd i).2.2.2 := by
  unfold bindR
  split
  · exact .inl rfl
  · split
    · rename_i h0 hi
      exact .inr ⟨hi, by rw [stOf_set st hl i i 2 hi hi, if_pos rfl]⟩
    · exact h
theorem Inv.del {st : List Int} {bd : Int} (hl : st.length = 65) (h : Inv st bd) (i : Int) : Inv (delR st bd i).2.2.1 (delR st bd i).2.2.2 := by
  unfold delR
  split
  · exact h
  · split
    · rename_i h0 hi
      by_cases e : bd = i
      · exact .inl (by simp [e])
      · rcases h with h | ⟨h1, h2⟩
        · exact .inl (by simp [h])
        · exact .inr ⟨by simpa [e] using h1, by simp only [e, if_false]; rw [stOf_set st hl i bd 0 hi h1, if_neg (fun x => e x.symm)]; exact h2⟩
    · exact h
theorem Inv.test {st : List Int} {bd : Int} (h : Inv st bd) : (bd == 0) = true ∨ ((bd == 0) = false ∧ (stOf st bd == 2) = true) := by
  rcases h with h | ⟨h1, h2⟩
  · exact .inl (by simp [h])
  · refine .inr ⟨?_, by simp [h2]⟩
    have : 1 ≤ bd ∧ bd ≤ 64 := by simpa [isName] using h1
    simp; omega


theorem kindR_cases (k : Int) : kindR k = 0 ∨ kindR k = 1 ∨ kindR k = 2 := by
  unfold kindR
  split
  · simp
  · split <;> simp

set_option maxRecDepth 20000 in
set_option maxHeartbeats 4000000 in
theorem bind_walk (w : World) (v : Value) (os : List (Int × Int)) (h : OpsAt w v os) : Calls Try.prog 4 #[v] w fun e w' => e = .returned (.bool true) ∧ Ext w w' := by
  go_enter Try.func4, Try.ntmps4
  go_wp2_with (first | (go_at_call 8; refine (wakes_any _).mono ?_; rintro e w1 ⟨rfl, hx1⟩; have hs1 := h.ext hx1) | (go_at_call 9; refine (new_any _).mono ?_; rintro e w2 ⟨p, rfl, hp, hn, hx2⟩; have hs2 := hs1.ext hx2) | (go_at_call 10; refine (few_any _ _ _ hs2).mono ?_; rintro e w3 ⟨u, rfl, hs3, rfl⟩; have hs4 := hs3 _ hs1; clear hs3; generalize hq : os.take 200 = qs at hs4; obtain ⟨_, a, cap, rfl, hc1, hc2, _, _⟩ := id hs4))
  clear h hs1 hs2 hq
  go_loopw [4, 19] (fun bv i wr => ∃ (m : Nat) (st : List Int) (bd : Int), m ≤ qs.length ∧ i = .int .i64 m ∧ bv = .int .i64 bd ∧ NmAt wr p st bd ∧ Inv st bd ∧ Chg [p] w2 wr) (fun _ i _ => qs.length - (intOf i).toNat)
  case atStart => exact ⟨0, _, 0, Nat.zero_le _, rfl, rfl, hn, .inl rfl, Chg.refl _ _⟩
  case round =>
    obtain ⟨m, st, bd, hm, rfl, rfl, hnm, hinv, hx⟩ := hrel
    by_cases hlt : m < qs.length
    · obtain ⟨b, off, cap', hv, hb, hcap, hel⟩ := hs4.pos (by omega)
      cases hv
      obtain ⟨o, ho⟩ : ∃ o, qs[m]? = some o := ⟨qs[m], List.getElem?_eq_getElem hlt⟩
      obtain ⟨kk, N⟩ := o
      obtain ⟨hk1, hk2⟩ := hel m _ ho
      have hbp : b ≠ p := by omega
      have hk1 := (hx.cell (by simpa using hbp) ((hx2.cell hk1)))
      have hk2 := (hx.cell (by simpa using hbp) ((hx2.cell hk2)))
      simp only at hk1 hk2
      have hbs : b < wr.heap.size := by have := hx2.size; have := hx.size; omega
      have hml : (m : Int) < (qs.length : Int) := by omega
      have hps := hnm.lt
      clear hel ho hs4 hlt
      have hqp : wr.heap.size ≠ p := by omega
      rcases kindR_cases kk with hk | hk | hk
      · have hkind := kind_any kk N (wr.alloc (.cells #[.int .i64 kk, .int .i64 N] 28))
        rw [hk] at hkind
        have hinv6 := Lib.hid (hinv.gen N)
        rcases hinv6.out.test with hz | ⟨hz, hst⟩
        · obtain rfl : bd = 0 := by simpa using hz
          clear hz hk
          go_wp2_with (first | (go_at_call 11; refine hkind.mono ?_; rintro e w4 ⟨rfl, hx4⟩; have hnm4 := (hnm.ext ((Ext.refl _).alloc _)).ext hx4; have hy4 := (hx.alloc _).ext2 hx4; have hoN := hx4.cell (cell_of_heap (heap_alloc_new _ _) (o := 1) (v := _) rfl); clear hkind) | (go_at_call 12; refine (gen_any p _ _ N _ hnm4).mono ?_; rintro e w6 ⟨a5, c5, rfl, _, hnm6, hx6⟩; have hy6 := hy4.trans hx6) | (go_at_call 18; refine (bound_any p _ _ _ hnm6).mono ?_; rintro e w9 ⟨rfl, rfl⟩) | (go_at_call 17; refine (is_any p _ _ _ _ hnm6).mono ?_; rintro e w9 ⟨rfl, rfl⟩))
          go_roundw
          case rel => exact ⟨m + 1, _, _, by omega, by go_num, rfl, hnm6, hinv6.out, hy6⟩
          case measure => simp [intOf]; omega
        · have hz' : (bd != 0) = true := by simpa using hz
          have HST := Lib.hid hst
          clear hk hst
          go_wp2_with (first | (go_at_call 11; refine hkind.mono ?_; rintro e w4 ⟨rfl, hx4⟩; have hnm4 := (hnm.ext ((Ext.refl _).alloc _)).ext hx4; have hy4 := (hx.alloc _).ext2 hx4; have hoN := hx4.cell (cell_of_heap (heap_alloc_new _ _) (o := 1) (v := _) rfl); clear hkind) | (go_at_call 12; refine (gen_any p _ _ N _ hnm4).mono ?_; rintro e w6 ⟨a5, c5, rfl, _, hnm6, hx6⟩; have hy6 := hy4.trans hx6) | (go_at_call 18; refine (bound_any p _ _ _ hnm6).mono ?_; rintro e w9 ⟨rfl, rfl⟩) | (go_at_call 17; refine (is_any p _ _ _ _ hnm6).mono ?_; rintro e w9 ⟨rfl, rfl⟩; rw [HST.out]))
          go_roundw
          case rel => exact ⟨m + 1, _, _, by omega, by go_num, rfl, hnm6, hinv6.out, hy6⟩
          case measure => simp [intOf]; omega
      · have hkind := kind_any kk N (wr.alloc (.cells #[.int .i64 kk, .int .i64 N] 28))
        rw [hk] at hkind
        clear hk
        have hl := hnm.2
        have HI := Lib.hid (hinv.bind hl N)
        by_cases h0 : N = 0
        · subst h0
          have HR := Lib.hid (show bindR st bd 0 = (false, 0, st, 0) by simp [bindR])
          have HW := Lib.hid (show (stOf st 0 == 2) = false by rw [stOf_none st 0 rfl]; rfl)
          rw [HR.out] at HI
          go_wp2_with (first | (go_at_call 11; refine hkind.mono ?_; rintro e w4 ⟨rfl, hx4⟩; have hnm4 := (hnm.ext ((Ext.refl _).alloc _)).ext hx4; have hy4 := (hx.alloc _).ext2 hx4; have hoN := hx4.cell (cell_of_heap (heap_alloc_new _ _) (o := 1) (v := _) rfl); clear hkind) | (go_at_call 17; refine (is_any p _ _ _ _ hnm6).mono ?_; rintro e w9 ⟨rfl, rfl⟩; rw [HST.out]) | (go_at_call 18; refine (bound_any p _ _ _ hnm6).mono ?_; rintro e w9 ⟨rfl, rfl⟩) | (go_at_call 17; refine (is_any p _ _ _ _ hnm4).mono ?_; rintro e w5 ⟨rfl, rfl⟩; rw [HW.out]) | (go_at_call 13; refine (bind_any p _ _ _ _ hnm4).mono ?_; rw [HR.out]; rintro e w6 ⟨rfl, hnm6, hx6⟩; have hy6 := hy4.trans hx6; have hoN6 := hx6.cell (by simpa using hqp) hoN))
          go_roundw
          case rel => exact ⟨m + 1, _, _, by omega, by go_num, rfl, hnm6, HI.out, hy6⟩
          case measure => simp [intOf]; omega
        · have hN : (N == 0) = false := by simpa using h0
          have hN' : (N != 0) = true := by simpa using h0
          cases hi : isName N with
          | true =>
            have hs2 := stOf_set st hl N N 2 hi hi
            rw [if_pos rfl] at hs2
            have HST := Lib.hid (show (stOf (st.set N.toNat 2) N == 2) = true by rw [hs2]; rfl)
            cases hw : (stOf st N == 2) with
            | true =>
              have HW := Lib.hid hw
              have HR := Lib.hid (show bindR st bd N = (false, 0, st.set N.toNat 2, N) by simp [bindR, h0, hi, bne, hw])
              rw [HR.out] at HI
              clear hw hs2 hi h0 hl
              go_wp2_with (first | (go_at_call 11; refine hkind.mono ?_; rintro e w4 ⟨rfl, hx4⟩; have hnm4 := (hnm.ext ((Ext.refl _).alloc _)).ext hx4; have hy4 := (hx.alloc _).ext2 hx4; have hoN := hx4.cell (cell_of_heap (heap_alloc_new _ _) (o := 1) (v := _) rfl); clear hkind) | (go_at_call 17; refine (is_any p _ _ _ _ hnm6).mono ?_; rintro e w9 ⟨rfl, rfl⟩; rw [HST.out]) | (go_at_call 18; refine (bound_any p _ _ _ hnm6).mono ?_; rintro e w9 ⟨rfl, rfl⟩) | (go_at_call 17; refine (is_any p _ _ _ _ hnm4).mono ?_; rintro e w5 ⟨rfl, rfl⟩; rw [HW.out]) | (go_at_call 13; refine (bind_any p _ _ _ _ hnm4).mono ?_; rw [HR.out]; rintro e w6 ⟨rfl, hnm6, hx6⟩; have hy6 := hy4.trans hx6; have hoN6 := hx6.cell (by simpa using hqp) hoN))
              go_roundw
              case rel => exact ⟨m + 1, _, _, by omega, by go_num, rfl, hnm6, HI.out, hy6⟩
              case measure => simp [intOf]; omega
            | false =>
              have HW := Lib.hid hw
              have HR := Lib.hid (show bindR st bd N = (true, 0, st.set N.toNat 2, N) by simp [bindR, h0, hi, bne, hw])
              rw [HR.out] at HI
              clear hw hs2 hi h0 hl
              go_wp2_with (first | (go_at_call 11; refine hkind.mono ?_; rintro e w4 ⟨rfl, hx4⟩; have hnm4 := (hnm.ext ((Ext.refl _).alloc _)).ext hx4; have hy4 := (hx.alloc _).ext2 hx4; have hoN := hx4.cell (cell_of_heap (heap_alloc_new _ _) (o := 1) (v := _) rfl); clear hkind) | (go_at_call 17; refine (is_any p _ _ _ _ hnm6).mono ?_; rintro e w9 ⟨rfl, rfl⟩; rw [HST.out]) | (go_at_call 18; refine (bound_any p _ _ _ hnm6).mono ?_; rintro e w9 ⟨rfl, rfl⟩) | (go_at_call 17; refine (is_any p _ _ _ _ hnm4).mono ?_; rintro e w5 ⟨rfl, rfl⟩; rw [HW.out]) | (go_at_call 13; refine (bind_any p _ _ _ _ hnm4).mono ?_; rw [HR.out]; rintro e w6 ⟨rfl, hnm6, hx6⟩; have hy6 := hy4.trans hx6; have hoN6 := hx6.cell (by simpa using hqp) hoN))
              go_roundw
              case rel => exact ⟨m + 1, _, _, by omega, by go_num, rfl, hnm6, HI.out, hy6⟩
              case measure => simp [intOf]; omega
          | false =>
            have HW := Lib.hid (show (stOf st N == 2) = false by rw [stOf_none st N hi]; rfl)
            have HR := Lib.hid (show bindR st bd N = (false, 2, st, bd) by simp [bindR, h0, hi])
            rw [HR.out] at HI
            rcases hinv.test with hz | ⟨hz, hst⟩
            · obtain rfl : bd = 0 := by simpa using hz
              clear hz hi h0 hl
              go_wp2_with (first | (go_at_call 11; refine hkind.mono ?_; rintro e w4 ⟨rfl, hx4⟩; have hnm4 := (hnm.ext ((Ext.refl _).alloc _)).ext hx4; have hy4 := (hx.alloc _).ext2 hx4; have hoN := hx4.cell (cell_of_heap (heap_alloc_new _ _) (o := 1) (v := _) rfl); clear hkind) | (go_at_call 17; refine (is_any p _ _ _ _ hnm6).mono ?_; rintro e w9 ⟨rfl, rfl⟩; rw [HST.out]) | (go_at_call 18; refine (bound_any p _ _ _ hnm6).mono ?_; rintro e w9 ⟨rfl, rfl⟩) | (go_at_call 17; refine (is_any p _ _ _ _ hnm4).mono ?_; rintro e w5 ⟨rfl, rfl⟩; rw [HW.out]) | (go_at_call 13; refine (bind_any p _ _ _ _ hnm4).mono ?_; rw [HR.out]; rintro e w6 ⟨rfl, hnm6, hx6⟩; have hy6 := hy4.trans hx6; have hoN6 := hx6.cell (by simpa using hqp) hoN))
              go_roundw
              case rel => exact ⟨m + 1, _, _, by omega, by go_num, rfl, hnm6, HI.out, hy6⟩
              case measure => simp [intOf]; omega
            · have hz' : (bd != 0) = true := by simpa using hz
              have HST := Lib.hid hst
              clear hst hi h0 hl
              go_wp2_with (first | (go_at_call 11; refine hkind.mono ?_; rintro e w4 ⟨rfl, hx4⟩; have hnm4 := (hnm.ext ((Ext.refl _).alloc _)).ext hx4; have hy4 := (hx.alloc _).ext2 hx4; have hoN := hx4.cell (cell_of_heap (heap_alloc_new _ _) (o := 1) (v := _) rfl); clear hkind) | (go_at_call 17; refine (is_any p _ _ _ _ hnm6).mono ?_; rintro e w9 ⟨rfl, rfl⟩; rw [HST.out]) | (go_at_call 18; refine (bound_any p _ _ _ hnm6).mono ?_; rintro e w9 ⟨rfl, rfl⟩) | (go_at_call 17; refine (is_any p _ _ _ _ hnm4).mono ?_; rintro e w5 ⟨rfl, rfl⟩; rw [HW.out]) | (go_at_call 13; refine (bind_any p _ _ _ _ hnm4).mono ?_; rw [HR.out]; rintro e w6 ⟨rfl, hnm6, hx6⟩; have hy6 := hy4.trans hx6; have hoN6 := hx6.cell (by simpa using hqp) hoN))
              go_roundw
              case rel => exact ⟨m + 1, _, _, by omega, by go_num, rfl, hnm6, HI.out, hy6⟩
              case measure => simp [intOf]; omega
      · have hkind := kind_any kk N (wr.alloc (.cells #[.int .i64 kk, .int .i64 N] 28))
        rw [hk] at hkind
        clear hk
        have hl := hnm.2
        have HI := Lib.hid (hinv.del hl N)
        by_cases h0 : N = 0
        · subst h0
          have HR := Lib.hid (show delR st bd 0 = (false, 0, st, bd) by simp [delR])
          have HW := Lib.hid (show (stOf st 0 == 2) = false by rw [stOf_none st 0 rfl]; rfl)
          have HU := Lib.hid (show (stOf st 0 != 0) = false by rw [stOf_none st 0 rfl]; rfl)
          rw [HR.out] at HI
          rcases hinv.test with hz | ⟨hz, hst⟩
          · obtain rfl : bd = 0 := by simpa using hz
            clear hz hl
            go_wp2_with (first | (go_at_call 11; refine hkind.mono ?_; rintro e w4 ⟨rfl, hx4⟩; have hnm4 := (hnm.ext ((Ext.refl _).alloc _)).ext hx4; have hy4 := (hx.alloc _).ext2 hx4; have hoN := hx4.cell (cell_of_heap (heap_alloc_new _ _) (o := 1) (v := _) rfl); clear hkind) | (go_at_call 17; refine (is_any p _ _ _ _ hnm6).mono ?_; rintro e w9 ⟨rfl, rfl⟩; rw [HST.out]) | (go_at_call 18; refine (bound_any p _ _ _ hnm6).mono ?_; rintro e w9 ⟨rfl, rfl⟩) | (go_at_call 17; refine (is_any p _ _ _ _ hnm4).mono ?_; rintro e w5 ⟨rfl, rfl⟩; rw [HW.out]) | (go_at_call 14; refine (delete_any p _ _ _ _ hnm4).mono ?_; rw [HR.out]; rintro e w6 ⟨rfl, hnm6, hx6⟩; have hy6 := hy4.trans hx6; have hoN6 := hx6.cell (by simpa using hqp) hoN) | (go_at_call 15; refine (used_any p _ _ _ _ hnm6).mono ?_; rintro e w9 ⟨rfl, rfl⟩; rw [HU.out]))
            go_roundw
            case rel => exact ⟨m + 1, _, _, by omega, by go_num, rfl, hnm6, HI.out, hy6⟩
            case measure => simp [intOf]; omega
          · have hz' : (bd != 0) = true := by simpa using hz
            have hz2 : (0 == bd) = false := by simp at hz ⊢; omega
            have HST := Lib.hid hst
            clear hst hl
            go_wp2_with (first | (go_at_call 11; refine hkind.mono ?_; rintro e w4 ⟨rfl, hx4⟩; have hnm4 := (hnm.ext ((Ext.refl _).alloc _)).ext hx4; have hy4 := (hx.alloc _).ext2 hx4; have hoN := hx4.cell (cell_of_heap (heap_alloc_new _ _) (o := 1) (v := _) rfl); clear hkind) | (go_at_call 17; refine (is_any p _ _ _ _ hnm6).mono ?_; rintro e w9 ⟨rfl, rfl⟩; rw [HST.out]) | (go_at_call 18; refine (bound_any p _ _ _ hnm6).mono ?_; rintro e w9 ⟨rfl, rfl⟩) | (go_at_call 17; refine (is_any p _ _ _ _ hnm4).mono ?_; rintro e w5 ⟨rfl, rfl⟩; rw [HW.out]) | (go_at_call 14; refine (delete_any p _ _ _ _ hnm4).mono ?_; rw [HR.out]; rintro e w6 ⟨rfl, hnm6, hx6⟩; have hy6 := hy4.trans hx6; have hoN6 := hx6.cell (by simpa using hqp) hoN) | (go_at_call 15; refine (used_any p _ _ _ _ hnm6).mono ?_; rintro e w9 ⟨rfl, rfl⟩; rw [HU.out]))
            go_roundw
            case rel => exact ⟨m + 1, _, _, by omega, by go_num, rfl, hnm6, HI.out, hy6⟩
            case measure => simp [intOf]; omega
        · cases hi : isName N with
          | true =>
            have hs2 := stOf_set st hl N N 0 hi hi
            rw [if_pos rfl] at hs2
            have HU := Lib.hid (show (stOf (st.set N.toNat 0) N != 0) = false by rw [hs2]; rfl)
            cases hw : (stOf st N == 2) with
            | true =>
              have HW := Lib.hid hw
              by_cases hb : bd = N
              · subst hb
                have HR := Lib.hid (show delR st bd bd = (true, 0, st.set bd.toNat 0, 0) by simp [delR, h0, hi, hw])
                rw [HR.out] at HI
                clear hw hs2 hi h0 hl hinv
                go_wp2_with (first | (go_at_call 11; refine hkind.mono ?_; rintro e w4 ⟨rfl, hx4⟩; have hnm4 := (hnm.ext ((Ext.refl _).alloc _)).ext hx4; have hy4 := (hx.alloc _).ext2 hx4; have hoN := hx4.cell (cell_of_heap (heap_alloc_new _ _) (o := 1) (v := _) rfl); clear hkind) | (go_at_call 17; refine (is_any p _ _ _ _ hnm6).mono ?_; rintro e w9 ⟨rfl, rfl⟩; rw [HST.out]) | (go_at_call 18; refine (bound_any p _ _ _ hnm6).mono ?_; rintro e w9 ⟨rfl, rfl⟩) | (go_at_call 17; refine (is_any p _ _ _ _ hnm4).mono ?_; rintro e w5 ⟨rfl, rfl⟩; rw [HW.out]) | (go_at_call 14; refine (delete_any p _ _ _ _ hnm4).mono ?_; rw [HR.out]; rintro e w6 ⟨rfl, hnm6, hx6⟩; have hy6 := hy4.trans hx6; have hoN6 := hx6.cell (by simpa using hqp) hoN) | (go_at_call 15; refine (used_any p _ _ _ _ hnm6).mono ?_; rintro e w9 ⟨rfl, rfl⟩; rw [HU.out]))
                go_roundw
                case rel => exact ⟨m + 1, _, _, by omega, by go_num, rfl, hnm6, HI.out, hy6⟩
                case measure => simp [intOf]; omega
              · have hb' : (N == bd) = false := by simp; omega
                have HR := Lib.hid (show delR st bd N = (true, 0, st.set N.toNat 0, bd) by simp [delR, h0, hi, hw, hb])
                rw [HR.out] at HI
                rcases HI.out.test with hz | ⟨hz, hst⟩
                · obtain rfl : bd = 0 := by simpa using hz
                  clear hz hw hs2 hi h0 hl
                  go_wp2_with (first | (go_at_call 11; refine hkind.mono ?_; rintro e w4 ⟨rfl, hx4⟩; have hnm4 := (hnm.ext ((Ext.refl _).alloc _)).ext hx4; have hy4 := (hx.alloc _).ext2 hx4; have hoN := hx4.cell (cell_of_heap (heap_alloc_new _ _) (o := 1) (v := _) rfl); clear hkind) | (go_at_call 17; refine (is_any p _ _ _ _ hnm6).mono ?_; rintro e w9 ⟨rfl, rfl⟩; rw [HST.out]) | (go_at_call 18; refine (bound_any p _ _ _ hnm6).mono ?_; rintro e w9 ⟨rfl, rfl⟩) | (go_at_call 17; refine (is_any p _ _ _ _ hnm4).mono ?_; rintro e w5 ⟨rfl, rfl⟩; rw [HW.out]) | (go_at_call 14; refine (delete_any p _ _ _ _ hnm4).mono ?_; rw [HR.out]; rintro e w6 ⟨rfl, hnm6, hx6⟩; have hy6 := hy4.trans hx6; have hoN6 := hx6.cell (by simpa using hqp) hoN) | (go_at_call 15; refine (used_any p _ _ _ _ hnm6).mono ?_; rintro e w9 ⟨rfl, rfl⟩; rw [HU.out]))
                  go_roundw
                  case rel => exact ⟨m + 1, _, _, by omega, by go_num, rfl, hnm6, HI.out, hy6⟩
                  case measure => simp [intOf]; omega
                · have hz' : (bd != 0) = true := by simpa using hz
                  have HST := Lib.hid hst
                  clear hst hw hs2 hi h0 hl
                  go_wp2_with (first | (go_at_call 11; refine hkind.mono ?_; rintro e w4 ⟨rfl, hx4⟩; have hnm4 := (hnm.ext ((Ext.refl _).alloc _)).ext hx4; have hy4 := (hx.alloc _).ext2 hx4; have hoN := hx4.cell (cell_of_heap (heap_alloc_new _ _) (o := 1) (v := _) rfl); clear hkind) | (go_at_call 17; refine (is_any p _ _ _ _ hnm6).mono ?_; rintro e w9 ⟨rfl, rfl⟩; rw [HST.out]) | (go_at_call 18; refine (bound_any p _ _ _ hnm6).mono ?_; rintro e w9 ⟨rfl, rfl⟩) | (go_at_call 17; refine (is_any p _ _ _ _ hnm4).mono ?_; rintro e w5 ⟨rfl, rfl⟩; rw [HW.out]) | (go_at_call 14; refine (delete_any p _ _ _ _ hnm4).mono ?_; rw [HR.out]; rintro e w6 ⟨rfl, hnm6, hx6⟩; have hy6 := hy4.trans hx6; have hoN6 := hx6.cell (by simpa using hqp) hoN) | (go_at_call 15; refine (used_any p _ _ _ _ hnm6).mono ?_; rintro e w9 ⟨rfl, rfl⟩; rw [HU.out]))
                  go_roundw
                  case rel => exact ⟨m + 1, _, _, by omega, by go_num, rfl, hnm6, HI.out, hy6⟩
                  case measure => simp [intOf]; omega
            | false =>
              have HW := Lib.hid hw
              by_cases hb : bd = N
              · subst hb
                have HR := Lib.hid (show delR st bd bd = (false, 0, st.set bd.toNat 0, 0) by simp [delR, h0, hi, hw])
                rw [HR.out] at HI
                clear hw hs2 hi h0 hl hinv
                go_wp2_with (first | (go_at_call 11; refine hkind.mono ?_; rintro e w4 ⟨rfl, hx4⟩; have hnm4 := (hnm.ext ((Ext.refl _).alloc _)).ext hx4; have hy4 := (hx.alloc _).ext2 hx4; have hoN := hx4.cell (cell_of_heap (heap_alloc_new _ _) (o := 1) (v := _) rfl); clear hkind) | (go_at_call 17; refine (is_any p _ _ _ _ hnm6).mono ?_; rintro e w9 ⟨rfl, rfl⟩; rw [HST.out]) | (go_at_call 18; refine (bound_any p _ _ _ hnm6).mono ?_; rintro e w9 ⟨rfl, rfl⟩) | (go_at_call 17; refine (is_any p _ _ _ _ hnm4).mono ?_; rintro e w5 ⟨rfl, rfl⟩; rw [HW.out]) | (go_at_call 14; refine (delete_any p _ _ _ _ hnm4).mono ?_; rw [HR.out]; rintro e w6 ⟨rfl, hnm6, hx6⟩; have hy6 := hy4.trans hx6; have hoN6 := hx6.cell (by simpa using hqp) hoN) | (go_at_call 15; refine (used_any p _ _ _ _ hnm6).mono ?_; rintro e w9 ⟨rfl, rfl⟩; rw [HU.out]))
                go_roundw
                case rel => exact ⟨m + 1, _, _, by omega, by go_num, rfl, hnm6, HI.out, hy6⟩
                case measure => simp [intOf]; omega
              · have hb' : (N == bd) = false := by simp; omega
                have HR := Lib.hid (show delR st bd N = (false, 0, st.set N.toNat 0, bd) by simp [delR, h0, hi, hw, hb])
                rw [HR.out] at HI
                rcases HI.out.test with hz | ⟨hz, hst⟩
                · obtain rfl : bd = 0 := by simpa using hz
                  clear hz hw hs2 hi h0 hl
                  go_wp2_with (first | (go_at_call 11; refine hkind.mono ?_; rintro e w4 ⟨rfl, hx4⟩; have hnm4 := (hnm.ext ((Ext.refl _).alloc _)).ext hx4; have hy4 := (hx.alloc _).ext2 hx4; have hoN := hx4.cell (cell_of_heap (heap_alloc_new _ _) (o := 1) (v := _) rfl); clear hkind) | (go_at_call 17; refine (is_any p _ _ _ _ hnm6).mono ?_; rintro e w9 ⟨rfl, rfl⟩; rw [HST.out]) | (go_at_call 18; refine (bound_any p _ _ _ hnm6).mono ?_; rintro e w9 ⟨rfl, rfl⟩) | (go_at_call 17; refine (is_any p _ _ _ _ hnm4).mono ?_; rintro e w5 ⟨rfl, rfl⟩; rw [HW.out]) | (go_at_call 14; refine (delete_any p _ _ _ _ hnm4).mono ?_; rw [HR.out]; rintro e w6 ⟨rfl, hnm6, hx6⟩; have hy6 := hy4.trans hx6; have hoN6 := hx6.cell (by simpa using hqp) hoN) | (go_at_call 15; refine (used_any p _ _ _ _ hnm6).mono ?_; rintro e w9 ⟨rfl, rfl⟩; rw [HU.out]))
                  go_roundw
                  case rel => exact ⟨m + 1, _, _, by omega, by go_num, rfl, hnm6, HI.out, hy6⟩
                  case measure => simp [intOf]; omega
                · have hz' : (bd != 0) = true := by simpa using hz
                  have HST := Lib.hid hst
                  clear hst hw hs2 hi h0 hl
                  go_wp2_with (first | (go_at_call 11; refine hkind.mono ?_; rintro e w4 ⟨rfl, hx4⟩; have hnm4 := (hnm.ext ((Ext.refl _).alloc _)).ext hx4; have hy4 := (hx.alloc _).ext2 hx4; have hoN := hx4.cell (cell_of_heap (heap_alloc_new _ _) (o := 1) (v := _) rfl); clear hkind) | (go_at_call 17; refine (is_any p _ _ _ _ hnm6).mono ?_; rintro e w9 ⟨rfl, rfl⟩; rw [HST.out]) | (go_at_call 18; refine (bound_any p _ _ _ hnm6).mono ?_; rintro e w9 ⟨rfl, rfl⟩) | (go_at_call 17; refine (is_any p _ _ _ _ hnm4).mono ?_; rintro e w5 ⟨rfl, rfl⟩; rw [HW.out]) | (go_at_call 14; refine (delete_any p _ _ _ _ hnm4).mono ?_; rw [HR.out]; rintro e w6 ⟨rfl, hnm6, hx6⟩; have hy6 := hy4.trans hx6; have hoN6 := hx6.cell (by simpa using hqp) hoN) | (go_at_call 15; refine (used_any p _ _ _ _ hnm6).mono ?_; rintro e w9 ⟨rfl, rfl⟩; rw [HU.out]))
                  go_roundw
                  case rel => exact ⟨m + 1, _, _, by omega, by go_num, rfl, hnm6, HI.out, hy6⟩
                  case measure => simp [intOf]; omega
          | false =>
            have HW := Lib.hid (show (stOf st N == 2) = false by rw [stOf_none st N hi]; rfl)
            have HU := Lib.hid (show (stOf st N != 0) = false by rw [stOf_none st N hi]; rfl)
            have HR := Lib.hid (show delR st bd N = (false, 2, st, bd) by simp [delR, h0, hi])
            rw [HR.out] at HI
            rcases hinv.test with hz | ⟨hz, hst⟩
            · obtain rfl : bd = 0 := by simpa using hz
              clear hz hi h0 hl
              go_wp2_with (first | (go_at_call 11; refine hkind.mono ?_; rintro e w4 ⟨rfl, hx4⟩; have hnm4 := (hnm.ext ((Ext.refl _).alloc _)).ext hx4; have hy4 := (hx.alloc _).ext2 hx4; have hoN := hx4.cell (cell_of_heap (heap_alloc_new _ _) (o := 1) (v := _) rfl); clear hkind) | (go_at_call 17; refine (is_any p _ _ _ _ hnm6).mono ?_; rintro e w9 ⟨rfl, rfl⟩; rw [HST.out]) | (go_at_call 18; refine (bound_any p _ _ _ hnm6).mono ?_; rintro e w9 ⟨rfl, rfl⟩) | (go_at_call 17; refine (is_any p _ _ _ _ hnm4).mono ?_; rintro e w5 ⟨rfl, rfl⟩; rw [HW.out]) | (go_at_call 14; refine (delete_any p _ _ _ _ hnm4).mono ?_; rw [HR.out]; rintro e w6 ⟨rfl, hnm6, hx6⟩; have hy6 := hy4.trans hx6; have hoN6 := hx6.cell (by simpa using hqp) hoN) | (go_at_call 15; refine (used_any p _ _ _ _ hnm6).mono ?_; rintro e w9 ⟨rfl, rfl⟩; rw [HU.out]))
              go_roundw
              case rel => exact ⟨m + 1, _, _, by omega, by go_num, rfl, hnm6, HI.out, hy6⟩
              case measure => simp [intOf]; omega
            · have hz' : (bd != 0) = true := by simpa using hz
              have HST := Lib.hid hst
              clear hst hi h0 hl
              go_wp2_with (first | (go_at_call 11; refine hkind.mono ?_; rintro e w4 ⟨rfl, hx4⟩; have hnm4 := (hnm.ext ((Ext.refl _).alloc _)).ext hx4; have hy4 := (hx.alloc _).ext2 hx4; have hoN := hx4.cell (cell_of_heap (heap_alloc_new _ _) (o := 1) (v := _) rfl); clear hkind) | (go_at_call 17; refine (is_any p _ _ _ _ hnm6).mono ?_; rintro e w9 ⟨rfl, rfl⟩; rw [HST.out]) | (go_at_call 18; refine (bound_any p _ _ _ hnm6).mono ?_; rintro e w9 ⟨rfl, rfl⟩) | (go_at_call 17; refine (is_any p _ _ _ _ hnm4).mono ?_; rintro e w5 ⟨rfl, rfl⟩; rw [HW.out]) | (go_at_call 14; refine (delete_any p _ _ _ _ hnm4).mono ?_; rw [HR.out]; rintro e w6 ⟨rfl, hnm6, hx6⟩; have hy6 := hy4.trans hx6; have hoN6 := hx6.cell (by simpa using hqp) hoN) | (go_at_call 15; refine (used_any p _ _ _ _ hnm6).mono ?_; rintro e w9 ⟨rfl, rfl⟩; rw [HU.out]))
              go_roundw
              case rel => exact ⟨m + 1, _, _, by omega, by go_num, rfl, hnm6, HI.out, hy6⟩
              case measure => simp [intOf]; omega
    · obtain rfl : m = qs.length := by omega
      go_wp2_with fail
      go_ret
      exact ⟨rfl, hx1.trans (hx2.chgTrans hx (by simp; omega))⟩

theorem bind_arg (W : World) (v0 : Value) (h0 : ArgIs Try.prog W 22 v0) : Calls Try.prog 4 #[v0] W fun e w' => e = .returned (.bool true) ∧ Ext W w' := by
  obtain ⟨os, h⟩ := ops_arg h0
  exact bind_walk W v0 os h
end Go.Proofs.Ytdomijfkpbganaa
