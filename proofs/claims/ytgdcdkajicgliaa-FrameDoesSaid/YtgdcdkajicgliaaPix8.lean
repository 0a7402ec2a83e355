/- Contracts of octet's Put32 and of the document's Same, Low. Conditions: each theorem's own premises. -/
import Derived.Test.YtgdcdkajicgliaaPix1
import Derived.Test.YtgdcdkajicgliaaOct1
namespace Go.Proofs.Ytgdcdkajicgliaa
open Go.RowKit
set_option linter.unusedVariables false
set_option maxRecDepth 100000

/-- The lowest bytes. -/
def lowB (x : Int) : Nat → List Int
  | 0 => []
  | n + 1 => x % 256 :: lowB (x / 256) n

theorem lowB_length (n : Nat) : ∀ x, (lowB x n).length = n := by
  induction n with
  | zero => intro x; rfl
  | succ n ih => intro x; simp [lowB, ih]

theorem lowB_snoc (k : Nat) : ∀ x, lowB x (k + 1) = lowB x k ++ [x / 256 ^ k % 256] := by
  induction k with
  | zero => intro x; simp [lowB]
  | succ k ih =>
    intro x
    rw [lowB, ih, lowB, List.cons_append]
    congr 3
    rw [Int.ediv_ediv_of_nonneg (by decide), Int.pow_succ, Int.mul_comm]

theorem lowB_wf (n : Nat) : ∀ x, ∀ z ∈ lowB x n, (Lit.int .u8 z).wf = true := by
  induction n with
  | zero => intro x z hz; simp [lowB] at hz
  | succ n ih =>
    intro x z hz
    simp only [lowB, List.mem_cons] at hz
    rcases hz with rfl | hz
    · exact wf_u8 (by omega) (by omega)
    · exact ih _ z hz

set_option maxHeartbeats 1000000 in
/-- octet.put. -/
theorem put_any (v : Value) (zs : List Int) (x : Int) (n : Nat) (w : World) (h : Ints .u8 w v zs) (hb : zs.length + 8 ≤ 140737488355328) (hn : n ≤ 8) (hx0 : 0 ≤ x) (hx1 : x < 18446744073709551616) :
    Calls Try.prog 118 #[v, .int .u64 x, .int .i64 n] w fun e w' => ∃ a cap, e = .returned (.slice a (zs.length + n) cap) ∧
      w'.ownsRow w.heap.size 5 1 (.slice a (zs.length + n) cap) (zs.length + n) ((zs ++ lowB x n).map (Value.int .u8)) ∧ Ext w w' := by
  obtain ⟨i0, hi, hz0, hz1, hz2⟩ := info_parts info_u8
  go_enter Try.func118, Try.ntmps118
  go_wp2_with (go_at_call 66; refine (clone_u8 _ zs _ h (by omega)).mono ?_; rintro e w1 ⟨a1, k1, rfl, hown, hi1, hx1⟩)
  go_loopw [0, 11] (fun b i wr => ∃ k : Nat, k ≤ n ∧ i = .int .i64 k ∧ wr.ownsRow w.heap.size 5 1 b (zs.length + k) ((zs ++ lowB x k).map (Value.int .u8)) ∧ Ext w wr) (fun _ i _ => n - (intOf i).toNat)
  case atStart => exact ⟨0, Nat.zero_le _, rfl, by simpa [lowB] using hown, hx1⟩
  case round =>
    obtain ⟨k, hk, rfl, hown, hxr⟩ := hrel
    by_cases hlt : k < n
    · have hs0 : 0 ≤ (8 : Int) * k := by omega
      go_wp2_with (at_builtin; refine wpList_append_own _ rfl _ _ 48 rfl w.heap.size 5 i0 (.int .u8 0) 1 1 Try.underlying48 hi hz0 hz1 hz2 rfl (by decide) _ _ _ rfl (hown.alloc _) ⟨wr.heap.size, 0, none⟩ 1 1 [.int .u8 (x / 2 ^ (8 * k) % 256)] rfl rfl (cell_one_new _ _ _) ?c2 ?c3 ?c4 ?c5 ?_)
      case c2 => intro u hu; simp at hu; subst hu; rfl
      case c3 => unfold maxLen; omega
      case c4 => omega
      case c5 => have := hxr.size; simp; omega
      intro v' w2 hown' hgrow _
      have hlt' := (hown.alloc (.cells #[.int .u8 (x / 2 ^ (8 * k) % 256)] 5)).lt
      have hx2 : Ext w w2 := (hxr.alloc _).grown hgrow (fun j hj => (hlt' j hj).1)
      have hown2 : w2.ownsRow w.heap.size 5 1 v' (zs.length + (k + 1)) ((zs ++ lowB x (k + 1)).map (Value.int .u8)) := by
        rw [lowB_snoc, ← two_pow_eight]
        simpa [Nat.add_assoc] using hown'
      clear hown' hgrow hown
      go_wp2
      go_roundw
      case rel => exact ⟨k + 1, by omega, by go_num, hown2, hx2⟩
      case measure => simp [intOf]; omega
    · have : k = n := by omega
      subst this
      obtain ⟨a, cap, rfl⟩ := owns_slice hown
      go_wp2
      go_ret
      exact ⟨_, _, rfl, hown, hxr⟩

theorem put32_any (v : Value) (zs : List Int) (x : Int) (w : World) (h : Ints .u8 w v zs) (hb : zs.length + 8 ≤ 140737488355328) (hx0 : 0 ≤ x) (hx1 : x < 4294967296) :
    Calls Try.prog 95 #[v, .int .u32 x] w fun e w' => ∃ a cap, e = .returned (.slice a (zs.length + 4) cap) ∧
      w'.ownsRow w.heap.size 5 1 (.slice a (zs.length + 4) cap) (zs.length + 4) ((zs ++ lowB x 4).map (Value.int .u8)) ∧ Ext w w' := by
  go_enter Try.func95, Try.ntmps95
  go_wp2_with (go_at_call 118; refine (put_any _ zs x 4 _ h hb (by decide) hx0 (by omega)).mono ?_; rintro e w1 ⟨a1, k1, rfl, hown, hx1⟩)
  go_ret
  exact ⟨_, _, rfl, hown, hx1⟩

/-- One number more in an owned row. -/
theorem own_snoc {w : World} {base : Nat} {e : TypeId} {v : Value} {n m : Nat} {k : IntKind} {l r : List Int} (h : w.ownsRow base e 1 v n (l.map (Value.int k) ++ r.map (Value.int k))) (hn : n = m) : w.ownsRow base e 1 v m ((l ++ r).map (Value.int k)) := by
  subst hn
  rw [List.map_append]
  exact h

set_option maxHeartbeats 1000000 in
/-- The reference's Same. -/
theorem same_drew (v u : Value) (xs ys : List Int) (w : World) (ha : Ints .u8 w v xs) (hb : Ints .u8 w u ys) :
    Calls Try.prog 36 #[v, u] w fun e w' => e = .returned (.bool (decide (xs = ys))) ∧ ∃ n, w' = w.drewN n := by
  obtain ⟨a1, k1, rfl⟩ : ∃ a cap, v = .slice a xs.length cap := by obtain ⟨⟨_, a, cap, rfl, _⟩, _⟩ := ha; exact ⟨a, cap, rfl⟩
  obtain ⟨a2, k2, rfl⟩ : ∃ a cap, u = .slice a ys.length cap := by obtain ⟨⟨_, a, cap, rfl, _⟩, _⟩ := hb; exact ⟨a, cap, rfl⟩
  have hm := ha.cap
  by_cases hl : xs.length = ys.length
  · have HF : Hid (xs.take ys.length = ys.take ys.length → xs = ys) := by
      intro h; rwa [← hl, List.take_length, hl, List.take_length] at h
    have hl0 : ((xs.length : Int) == (ys.length : Int)) = true := by simp; omega
    have HL := Lib.hid hl
    clear hl
    generalize hd : decide (xs = ys) = d
    have HD := Lib.hid hd; clear hd
    go_enter Try.func36, Try.ntmps36
    go_wp2
    go_loopw [5] (fun i wr => ∃ k : Nat, k ≤ xs.length ∧ i = .int .i64 k ∧ xs.take k = ys.take k ∧ ∃ n, wr = w.drewN n) (fun i _ => xs.length - (intOf i).toNat)
    case atStart => exact ⟨0, Nat.zero_le _, rfl, rfl, 0, rfl⟩
    case round =>
      obtain ⟨k, hk, rfl, heq, nd, rfl⟩ := hrel
      have hxr : Ext w (w.drewN nd) := (Ext.refl _).drewN _
      have HE := Lib.hid heq; clear heq
      by_cases hlt : k < xs.length
      · have hlt2 : k < ys.length := by rw [← HL.out]; exact hlt
        obtain ⟨b, off, rfl, hbl, hcell⟩ := ha.pos (by omega)
        obtain ⟨b2, off2, rfl, hbl2, hcell2⟩ := hb.pos (by omega)
        have hc := hcell k hlt
        have hc2 := hcell2 k hlt2
        clear hcell hcell2
        have hsx := Lib.hid (take_snoc_getD xs k hlt)
        have hsy := Lib.hid (take_snoc_getD ys k hlt2)
        by_cases hcc : xs.getD k 0 = ys.getD k 0
        · generalize xs.getD k 0 = c at *
          subst hcc
          generalize ys.getD k 0 = c at *
          go_wp2
          go_quiet (fail)
          go_wp2
          go_roundw
          case rel => exact ⟨k + 1, by omega, by go_num, by rw [hsx.out, hsy.out, HE.out], _, rfl⟩
          case measure => simp [intOf]; omega
        · have hne : Hid (d = false) := by
            rw [← HD.out]; simp; intro h; exact hcc (by rw [h])
          have hcc' : (xs.getD k 0 != ys.getD k 0) = true := by simpa using hcc
          have hcc2 : (xs.getD k 0 == ys.getD k 0) = false := by simpa using hcc
          generalize xs.getD k 0 = c at *
          generalize ys.getD k 0 = c2 at *
          go_wp2
          go_quiet (fail)
          go_wp2
          go_ret
          exact ⟨by rw [hne.out]; rfl, nd + nq, by simp⟩
      · have hd : Hid (d = true) := by
          rw [← HD.out]; simp
          have : k = ys.length := by rw [← HL.out]; omega
          subst this
          exact HF.out HE.out
        go_wp2
        go_ret
        exact ⟨by rw [hd.out]; rfl, _, rfl⟩
  · have hl1 : ((xs.length : Int) != (ys.length : Int)) = true := by simp; omega
    have hl2 : ((xs.length : Int) == (ys.length : Int)) = false := by simp; omega
    have HD : Hid (decide (xs = ys) = false) := by simp [Hid]; intro h; exact hl (by rw [h])
    go_enter Try.func36, Try.ntmps36
    go_wp2
    go_ret
    exact ⟨by rw [HD.out]; rfl, 0, rfl⟩

theorem same_any (v u : Value) (xs ys : List Int) (w : World) (ha : Ints .u8 w v xs) (hb : Ints .u8 w u ys) :
    Calls Try.prog 36 #[v, u] w fun e w' => e = .returned (.bool (decide (xs = ys))) ∧ Ext w w' :=
  (same_drew v u xs ys w ha hb).mono fun _ _ ⟨h, n, hw⟩ => ⟨h, by subst hw; exact (Ext.refl _).drewN _⟩

/-- A list with one place set. -/
theorem set_take {α : Type} (l : List α) (k : Nat) (x : α) (h : k < l.length) : (l.set k x).take (k + 1) = l.take k ++ [x] := by
  rw [List.take_succ_eq_append_getElem (by simpa using h)]
  simp [List.take_set_of_le]

set_option maxHeartbeats 1000000 in
/-- The reference's Low. -/
theorem low_any (x : Int) (n : Nat) (w : World) (hn : n ≤ 8) (hx0 : 0 ≤ x) (hx1 : x < 18446744073709551616) :
    Calls Try.prog 106 #[.int .u64 x, .int .i64 n] w fun e w' => ∃ a cap, e = .returned (.slice a n cap) ∧ Ints .u8 w' (.slice a n cap) (lowB x n) ∧ Ext w w' := by
  obtain ⟨i0, hi, hz0, hz1, hz2⟩ := info_parts info_u8
  go_enter Try.func106, Try.ntmps106
  go_wp2_with (at_make; refine wpList_make_full _ rfl _ _ 48 rfl w.heap.size 5 i0 (.int .u8 0) 1 Try.underlying48 hi hz0 hz1 _ _ _ _ n rfl rfl rfl rfl ?b2 ?b3 (Nat.le_refl _) ?_)
  case b2 => rw [hz2]; omega
  case b3 => unfold maxLen; omega
  intro w1 hown hgrow
  have hx1 : Ext w w1 := (Ext.refl w).grown hgrow (by intro k hk; cases hk)
  clear hgrow
  obtain ⟨cur0, hcur0, hsz0⟩ : ∃ cur : Array Value, w1.heap[w.heap.size]? = some (.cells cur 5 (0, 0)) ∧ cur.size = n := by
    rcases hown.2 with ⟨h, _⟩ | ⟨g, cap, cur, he, _, hh, _, _, hs, _⟩
    · cases h
    · simp at he
      obtain ⟨rfl, rfl⟩ := he
      exact ⟨cur, hh, by simpa using hs⟩
  clear hown
  go_wp2
  go_loopw [0, 6] (fun y i wr => ∃ (k : Nat) (cur : Array Value), k ≤ n ∧ i = .int .i64 k ∧ y = .int .u64 (x / 256 ^ k) ∧ wr.heap[w.heap.size]? = some (.cells cur 5 (0, 0)) ∧ cur.size = n ∧ cur.toList.take k = (lowB x k).map (Value.int .u8) ∧ Ext w wr) (fun _ i _ => n - (intOf i).toNat)
  case atStart => exact ⟨0, cur0, Nat.zero_le _, rfl, by simp, hcur0, hsz0, by simp [lowB], hx1⟩
  case round =>
    obtain ⟨k, cur, hk, rfl, rfl, hcur, hsz, htk, hxr⟩ := hrel
    have HCUR := Lib.hid hcur
    have HSZ := Lib.hid hsz
    have HTK := Lib.hid htk
    by_cases hlt : k < n
    · have hc : wr.cell? ⟨w.heap.size, k, none⟩ = some (cur.getD k undef) := by
        have : k < cur.size := by omega
        simp [World.cell?, hcur, Array.getD, this]
      have hf : wr.frozen? ⟨w.heap.size, k, none⟩ = false := by simp [World.frozen?, hcur]
      have hy0 : 0 ≤ x / 256 ^ k := Int.ediv_nonneg hx0 (by have : (0 : Int) < 256 ^ k := Int.pow_pos (by decide); omega)
      have hy1 : x / 256 ^ k ≤ x := Int.ediv_le_self _ hx0
      have hnx : Hid (x / 256 ^ (k + 1) = x / 256 ^ k / 256) := by
        show _ = _
        rw [Int.ediv_ediv_of_nonneg (by have : (0 : Int) < 256 ^ k := Int.pow_pos (by decide); omega), Int.pow_succ]
      have hsn := Lib.hid (lowB_snoc k x)
      clear hcur hsz htk
      generalize hY : x / 256 ^ k = y at *
      clear hY
      go_wp2
      go_roundw
      case rel =>
        refine ⟨k + 1, cur.setIfInBounds k (.int .u8 (y % 256)), by omega, by go_num, by rw [hnx.out], ?_, by simpa using HSZ.out, ?_, ?_⟩
        · have := Array.getElem?_eq_some_iff.1 HCUR.out
          simp [World.setCell, Array.getElem?_modify, HCUR.out]
        · rw [Array.toList_setIfInBounds, set_take _ _ _ (by simpa [HSZ.out] using hlt), HTK.out, hsn.out, List.map_append]
          rfl
        · exact hxr.setCell (by simp) _
      case measure => simp [intOf]; omega
    · have hkn : k = n := by omega
      subst hkn
      clear hcur hsz htk
      go_wp2
      go_ret
      refine ⟨_, _, rfl, ⟨?_, lowB_wf _ _⟩, hxr⟩
      rw [lowB_length]
      refine ⟨by simp [lowB_length], _, _, rfl, Nat.le_refl _, by unfold maxLen; omega, (by intro h; cases h), fun _ => ⟨_, _, rfl, (Array.getElem?_eq_some_iff.1 HCUR.out).1, fun j u hu => ?_⟩⟩
      rw [← HTK.out, List.getElem?_take] at hu
      split at hu
      · simpa [World.cell?, HCUR.out] using hu
      · cases hu

end Go.Proofs.Ytgdcdkajicgliaa
