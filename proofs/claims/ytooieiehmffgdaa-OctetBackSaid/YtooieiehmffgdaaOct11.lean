/- The walk of OctetBack. Conditions: the theorem's own premises. -/
import Derived.Test.YtooieiehmffgdaaOct7
import Derived.Test.YtooieiehmffgdaaOctP
import Derived.Deep.DeepCutAuto
import Derived.Deep.CutBlock
namespace Go.Proofs.Ytooieiehmffgdaa
open Go.RowKit
set_option linter.unusedVariables false

/-- The bytes of the number at place k. -/
def itemB (k : Nat) (x : Int) : List Int := if k % 2 = 0 then lowB x 4 else lowB x 2
/-- The bytes of the first n numbers. -/
def encT (l : List Int) : Nat → List Int
  | 0 => []
  | k + 1 => encT l k ++ itemB k (l.getD k 0)

theorem itemB_length (k : Nat) (x : Int) : (itemB k x).length = if k % 2 = 0 then 4 else 2 := by unfold itemB; split <;> rw [lowB_length]
theorem encT_length (l : List Int) : ∀ n, (encT l n).length ≤ 4 * n
  | 0 => by simp [encT]
  | n + 1 => by
    have := encT_length l n
    rw [encT, List.length_append, itemB_length]
    split <;> omega
theorem itemB_wf (k : Nat) (x : Int) : ∀ z ∈ itemB k x, (Lit.int .u8 z).wf = true := by
  unfold itemB
  split
  · exact lowB_wf 4 x
  · exact lowB_wf 2 x
theorem encT_wf (l : List Int) : ∀ n, ∀ z ∈ encT l n, (Lit.int .u8 z).wf = true
  | 0, z, h => by simp [encT] at h
  | n + 1, z, h => by
    rw [encT] at h
    rcases List.mem_append.1 h with h | h
    · exact encT_wf l n z h
    · exact itemB_wf _ _ z h
theorem encT_prefix (l : List Int) (k : Nat) : ∀ n, k ≤ n → ∃ r, encT l n = encT l k ++ r
  | 0, h => by
    have : k = 0 := by omega
    subst this
    exact ⟨[], by simp⟩
  | n + 1, h => by
    rcases Nat.lt_or_ge n k with h' | h'
    · have : k = n + 1 := by omega
      subst this
      exact ⟨[], by simp⟩
    · obtain ⟨r, hr⟩ := encT_prefix l k n h'
      exact ⟨r ++ itemB n (l.getD n 0), by rw [encT, hr, List.append_assoc]⟩

/-- What is read at a number's place is that number's bytes. -/
theorem takeR_item (l : List Int) (n k : Nat) (hk : k < n) (m : Nat) (hm : (itemB k (l.getD k 0)).length = m) : takeR (encT l n) (encT l k).length 0 m = (itemB k (l.getD k 0), (encT l (k + 1)).length, 0) := by
  obtain ⟨r, hr⟩ := encT_prefix l (k + 1) n (by omega)
  have e : encT l n = encT l k ++ (itemB k (l.getD k 0) ++ r) := by rw [hr, encT, List.append_assoc]
  have hl : (encT l (k + 1)).length = (encT l k).length + m := by rw [encT, List.length_append, hm]
  unfold takeR
  rw [if_neg (by decide), if_neg (by omega), if_neg (by rw [e, List.length_append, List.length_append, hm]; omega)]
  rw [hl, e, List.drop_left' rfl]
  simp only [Int.toNat_natCast]
  rw [← hm, List.take_left' rfl]

theorem leN_low4 (x : Int) (h0 : 0 ≤ x) (h1 : x < 4294967296) : leN (lowB x 4) = x := by
  simp only [lowB, leN]; omega
theorem wrap_u32_in (x : Int) (h : 0 ≤ x ∧ x < 4294967296) : IntKind.u32.wrap x = x := by rw [wrap_u32_eq]; omega
theorem wrap_i16_mod (x : Int) : IntKind.i16.wrap (x % 65536) = IntKind.i16.wrap x := by rw [wrap_i16_eq, wrap_i16_eq]; omega
theorem wrap_u16_mod (x : Int) : IntKind.u16.wrap (x % 65536) = IntKind.u16.wrap x := by rw [wrap_u16_eq, wrap_u16_eq]; omega
theorem leN_low2 (x : Int) : leN (lowB x 2) = x % 65536 := by
  simp only [lowB, leN]; omega

theorem u32_wf {z : Int} (h : (Lit.int .u32 z).wf = true) : 0 ≤ z ∧ z < 4294967296 := u32_of_wf h

set_option maxHeartbeats 8000000 in
/-- OctetBack. -/
theorem back_walk (v : Value) (sg : Bool) (l : List Int) (w : World) (hl : Ints .u32 w v l) :
    Calls Try.prog 4 #[v, .bool sg] w fun e w' => e = .returned (.bool true) ∧ Ext w w' := by
  obtain ⟨a1, k1, rfl⟩ : ∃ a cap, v = .slice a l.length cap := by obtain ⟨⟨_, a, cap, rfl, _⟩, _⟩ := hl; exact ⟨a, cap, rfl⟩
  have hlm := hl.cap
  have hcm := hlm.2.2.1
  have hlc := hlm.2.1
  clear hlm
  go_enter Try.func4, Try.ntmps4
  go_upto_block 0 with (go_at_call 8; refine (wakes_any _).mono ?_; rintro e w1 ⟨rfl, e1⟩)
  go_cut [0, 5] (fun l2 b wx => ∃ (n : Nat) (a : Option Addr) (c : Nat) (a' : Option Addr) (c' : Nat), n ≤ l.length ∧ n ≤ 501 ∧ l2 = .slice a n c ∧ Ints .u32 wx (.slice a n c) (l.take n) ∧ b = .slice a' (encT l n).length c' ∧ Ints .u8 wx (.slice a' (encT l n).length c') (encT l n) ∧ Ext w wx)
  case first =>
    go_wp2_with fail
    go_loopw [0, 5, 16] (fun l2 b i wr => ∃ (k : Nat) (a' : Option Addr) (c' : Nat), k ≤ l.length ∧ k ≤ 500 ∧ l2 = .slice a1 l.length k1 ∧ i = .int .i64 k ∧ b = .slice a' (encT l k).length c' ∧ Ints .u8 wr (.slice a' (encT l k).length c') (encT l k) ∧ Ext w wr) (fun _ _ i _ => l.length - (intOf i).toNat)
    case atStart => exact ⟨0, none, 0, Nat.zero_le _, Nat.zero_le _, rfl, rfl, rfl, Ints.nil _ _, e1⟩
    case round =>
      obtain ⟨k, a', c', hk, hk5, rfl, rfl, rfl, hb, hx⟩ := hrel
      by_cases hlt : k < l.length
      · have hxl := hl.ext hx
        obtain ⟨b, off, rfl, hbl, hcell⟩ := hxl.pos (by omega)
        have hc := hcell k hlt
        have hw := u32_of_wf (hl.2 (l.getD k 0) (by rw [List.getD_eq_getElem?_getD, List.getElem?_eq_getElem hlt]; exact List.getElem_mem hlt))
        have hlen := encT_length l k
        have hnext : Hid (encT l (k + 1) = encT l k ++ itemB k (l.getD k 0)) := rfl
        clear hcell
        generalize l.getD k 0 = x at *
        by_cases hev : k % 2 = 0
        · have hev1 : ((k : Int) % 2 == 0) = true := by simp; omega
          have hit : Hid (itemB k x = lowB x 4) := by show _ = _; unfold itemB; rw [if_pos hev]
          have hen : Hid ((encT l (k + 1)).length = (encT l k).length + 4) := by show _ = _; rw [hnext.out, hit.out, List.length_append, lowB_length]
          go_wp2_with fail
          refine (put32_any _ (encT l k) x _ hb (by omega) hw.1 hw.2).mono ?_
          rintro e w2 ⟨a2, c2, rfl, o2, e2⟩
          have i2 := Ints.of_owned (zs := encT l k ++ lowB x 4) o2 (fun z hz => (List.mem_append.1 hz).elim (hb.2 z) (lowB_wf _ _ z))
          rw [← hit.out, ← hnext.out, ← hen.out] at i2
          rw [← hen.out]
          have hx2 := hx.trans e2
          clear o2 hb hx e2 hc
          generalize hbb : encT l (k + 1) = B at *
          clear hnext hit hen
          have HBB := Lib.hid hbb; clear hbb
          by_cases h500 : k = 500
          · subst h500
            have hcut := (hl.ext hx2).cut 0 501 (by omega) (by omega)
            rw [Nat.sub_zero, Nat.sub_zero, List.drop_zero] at hcut
            have HCUT := Lib.hid hcut; clear hcut hev hev1
            go_wp2_with fail
            all_goals
              go_meet
              refine ⟨501, _, _, _, _, by omega, Nat.le_refl _, rfl, ?_, by rw [HBB.out], by rw [HBB.out]; exact i2, hx2⟩
              have := HCUT.out
              first
                | (rw [if_neg (by omega)] at this; simpa [Addr.add_lit] using this)
                | (simpa using this)
          · have h500' : ((k : Int) == 500) = false := by simp; omega
            clear hev hev1
            go_wp2_with fail
            go_roundw
            case rel => exact ⟨k + 1, a2, c2, by omega, by omega, rfl, by go_num, by rw [HBB.out], by rw [HBB.out]; exact i2, hx2⟩
            case measure => simp [intOf]; omega
        · have hev1 : ((k : Int) % 2 == 0) = false := by simp; omega
          have hit : Hid (itemB k x = lowB x 2) := by show _ = _; unfold itemB; rw [if_neg hev]
          have hen : Hid ((encT l (k + 1)).length = (encT l k).length + 2) := by show _ = _; rw [hnext.out, hit.out, List.length_append, lowB_length]
          go_wp2_with fail
          refine (put16_any _ (encT l k) (IntKind.u16.wrap x) _ hb (by omega) (by rw [wrap_u16_eq]; omega) (by rw [wrap_u16_eq]; omega)).mono ?_
          rintro e w2 ⟨a2, c2, rfl, o2, e2⟩
          have i2 := Ints.of_owned (zs := encT l k ++ lowB (IntKind.u16.wrap x) 2) o2 (fun z hz => (List.mem_append.1 hz).elim (hb.2 z) (lowB_wf _ _ z))
          rw [wrap_u16_eq, lowB_mod16] at i2
          rw [← hit.out, ← hnext.out, ← hen.out] at i2
          rw [← hen.out]
          have hx2 := hx.trans e2
          clear o2 hb hx e2 hc
          generalize hbb : encT l (k + 1) = B at *
          clear hnext hit hen
          have HBB := Lib.hid hbb; clear hbb
          by_cases h500 : k = 500
          · subst h500
            have hcut := (hl.ext hx2).cut 0 501 (by omega) (by omega)
            rw [Nat.sub_zero, Nat.sub_zero, List.drop_zero] at hcut
            have HCUT := Lib.hid hcut; clear hcut hev hev1
            go_wp2_with fail
            all_goals
              go_meet
              refine ⟨501, _, _, _, _, by omega, Nat.le_refl _, rfl, ?_, by rw [HBB.out], by rw [HBB.out]; exact i2, hx2⟩
              have := HCUT.out
              first
                | (rw [if_neg (by omega)] at this; simpa [Addr.add_lit] using this)
                | (simpa using this)
          · have h500' : ((k : Int) == 500) = false := by simp; omega
            clear hev hev1
            go_wp2_with fail
            go_roundw
            case rel => exact ⟨k + 1, a2, c2, by omega, by omega, rfl, by go_num, by rw [HBB.out], by rw [HBB.out]; exact i2, hx2⟩
            case measure => simp [intOf]; omega
      · have hkl : k = l.length := by omega
        subst hkl
        go_wp2_with fail
        go_meet
        refine ⟨_, _, _, _, _, Nat.le_refl _, by omega, rfl, ?_, rfl, hb, hx⟩
        rw [List.take_length]
        exact hl.ext hx
  case rest =>
    obtain ⟨n, a, c, a', c', hn, hn5, rfl, il, rfl, ib, hx⟩ := hcut
    have hlen := encT_length l n
    have hltk : (l.take n).length = n := by rw [List.length_take]; omega
    have hget : Hid (∀ k, k < n → (l.take n).getD k 0 = l.getD k 0) := by
      intro k hk
      rw [List.getD_eq_getElem?_getD, List.getD_eq_getElem?_getD, List.getElem?_take, if_pos hk]
    have HLT := Lib.hid hltk; clear hltk
    go_wp2_with fail
    refine (read_any _ (encT l n) _ ib (by omega)).mono ?_
    rintro e w2 ⟨p, rfl, hp, hr, e2⟩
    have hx2 := hx.trans e2
    have il2 := il.ext e2
    have hp0 : w.heap.size ≤ p := by have := hx.size; omega
    have hne : ∀ b, (Value.slice a n c).ownBlock = some b → 0 < (l.take n).length → b ∉ [p] := by
      intro b hb h0 hm
      have := il.1.lt hb h0
      simp at hm
      omega
    have HNE := Lib.hid hne
    clear hp hx e2 il ib hne
    go_wp2_with fail
    go_loopw [42] (fun i wr => ∃ k : Nat, k ≤ n ∧ i = .int .i64 k ∧ RdAt wr p (encT l n) (encT l k).length 0 ∧ Ext w wr ∧ Ints .u32 wr (.slice a n c) (l.take n)) (fun i _ => n - (intOf i).toNat)
    case atStart => exact ⟨0, Nat.zero_le _, rfl, hr, hx2, il2⟩
    case round =>
      obtain ⟨k, hk, rfl, hrk, hxr, ilr⟩ := hrel
      by_cases hlt : k < n
      · obtain ⟨b, off, rfl, hbl, hcell⟩ := ilr.pos (by rw [HLT.out]; omega)
        have hc := hcell k (by rw [HLT.out]; exact hlt)
        rw [hget.out k hlt] at hc
        have hw := u32_of_wf (hl.2 (l.getD k 0) (by rw [List.getD_eq_getElem?_getD, List.getElem?_eq_getElem (by omega)]; exact List.getElem_mem (by omega)))
        have HT4 := fun (m : Nat) (h : (itemB k (l.getD k 0)).length = m) => takeR_item l n k hlt m h
        have hil := itemB_length k (l.getD k 0)
        have hib : Hid (itemB k (l.getD k 0) = if k % 2 = 0 then lowB (l.getD k 0) 4 else lowB (l.getD k 0) 2) := rfl
        clear hcell
        generalize l.getD k 0 = x at *
        by_cases hev : k % 2 = 0
        · have hev1 : ((k : Int) % 2 == 0) = true := by simp; omega
          rw [if_pos hev] at hil
          have ht := HT4 4 hil
          rw [hib.out, if_pos hev] at ht
          have HT := Lib.hid ht
          have hle := leN_low4 x hw.1 hw.2
          have HLE := Lib.hid hle
          clear ht HT4 hle hil hib hev
          cases sg with
          | true =>
            go_wp2_with fail
            refine (i32_any p _ _ _ _ hrk (by omega)).mono ?_
            rw [show ((4 : Int)) = ((4 : Nat) : Int) from rfl, HT.out]
            simp only [HLE.out]
            rintro e w3 ⟨rfl, hr3, c3⟩
            have hx3 := hxr.chgTrans c3 (by intro i hi; simp at hi; omega)
            go_wp2_with fail
            go_roundw
            case rel => exact ⟨k + 1, by omega, by go_num, hr3, hx3, ilr.chg c3 HNE.out⟩
            case measure => simp [intOf]; omega
          | false =>
            go_wp2_with fail
            refine (u32_any p _ _ _ _ hrk (by omega)).mono ?_
            rw [show ((4 : Int)) = ((4 : Nat) : Int) from rfl, HT.out]
            simp only [HLE.out, wrap_u32_in x hw]
            rintro e w3 ⟨rfl, hr3, c3⟩
            have hx3 := hxr.chgTrans c3 (by intro i hi; simp at hi; omega)
            go_wp2_with fail
            go_roundw
            case rel => exact ⟨k + 1, by omega, by go_num, hr3, hx3, ilr.chg c3 HNE.out⟩
            case measure => simp [intOf]; omega
        · have hev1 : ((k : Int) % 2 == 0) = false := by simp; omega
          rw [if_neg hev] at hil
          have ht := HT4 2 hil
          rw [hib.out, if_neg hev] at ht
          have HT := Lib.hid ht
          have hle := leN_low2 x
          have HLE := Lib.hid hle
          clear ht HT4 hle hil hib hev
          cases sg with
          | true =>
            go_wp2_with fail
            refine (i16_any p _ _ _ _ hrk (by omega)).mono ?_
            rw [show ((2 : Int)) = ((2 : Nat) : Int) from rfl, HT.out]
            simp only [HLE.out, wrap_i16_mod]
            rintro e w3 ⟨rfl, hr3, c3⟩
            have hx3 := hxr.chgTrans c3 (by intro i hi; simp at hi; omega)
            go_wp2_with fail
            go_roundw
            case rel => exact ⟨k + 1, by omega, by go_num, hr3, hx3, ilr.chg c3 HNE.out⟩
            case measure => simp [intOf]; omega
          | false =>
            go_wp2_with fail
            refine (u16_any p _ _ _ _ hrk (by omega)).mono ?_
            rw [show ((2 : Int)) = ((2 : Nat) : Int) from rfl, HT.out]
            simp only [HLE.out, wrap_u16_mod]
            rintro e w3 ⟨rfl, hr3, c3⟩
            have hx3 := hxr.chgTrans c3 (by intro i hi; simp at hi; omega)
            go_wp2_with fail
            go_roundw
            case rel => exact ⟨k + 1, by omega, by go_num, hr3, hx3, ilr.chg c3 HNE.out⟩
            case measure => simp [intOf]; omega
      · have hkn : k = n := by omega
        subst hkn
        go_wp2_with fail
        refine (left_any p _ _ _ _ hrk).mono ?_
        rintro e w3 ⟨rfl, e3⟩
        go_wp2_with fail
        refine (err_any p _ _ _ _ (hrk.ext e3)).mono ?_
        rintro e w4 ⟨rfl, rfl⟩
        go_wp2_with fail
        go_ret
        exact ⟨by simp, hxr.trans e3⟩

theorem cells_u32 : Try.prog.cellsOf 23 = 1 := by kernel_rfl
theorem bytes_u32 : Try.prog.bytesOf 23 = 4 := by kernel_rfl

theorem back_arg (W : World) (v0 v1 : Value) (h0 : ArgIs Try.prog W 33 v0) (h1 : ArgIs Try.prog W 4 v1) :
    Calls Try.prog 4 #[v0, v1] W fun e w' => e = .returned (.bool true) ∧ Ext W w' := by
  obtain ⟨l, hl, _⟩ := h0.ints Try.underlying33 Try.underlying23 cells_u32 bytes_u32
  obtain ⟨b, rfl⟩ := h1.bool Try.underlying4
  exact back_walk v0 b l W hl

end Go.Proofs.Ytooieiehmffgdaa
