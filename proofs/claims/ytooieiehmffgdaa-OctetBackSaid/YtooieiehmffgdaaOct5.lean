/- The walks of octet's laws. Conditions: each theorem's own premises. -/
import Derived.Test.YtooieiehmffgdaaOct4
import Derived.Deep.RegionHeld3
namespace Go.Proofs.Ytooieiehmffgdaa
open Go.RowKit
set_option linter.unusedVariables false

theorem Ints.of_owned {k : IntKind} {w : World} {base : Nat} {e : TypeId} {v : Value} {n : Nat} {zs : List Int} (h : w.ownsRow base e 1 v n (zs.map (Value.int k))) (hz : ∀ z ∈ zs, (Lit.int k z).wf = true) : Ints k w v zs := by
  have := SlC.owned h
  have hl := this.1
  simp at hl
  exact ⟨by rw [hl]; exact this, hz⟩

set_option maxHeartbeats 2000000 in
theorem wakes_any (w : World) : Calls Try.prog 8 #[] w fun e w' => e = .returned (.bool true) ∧ Ext w w' := by
  have hnew : ∀ w : World, Ints .u8 (w.alloc (.cells #[.int .u8 1, .int .u8 2, .int .u8 5] 5)) (.slice (some ⟨w.heap.size, 0, none⟩) 3 3) [1, 2, 5] := fun w => ⟨SlC.new [.int .u8 1, .int .u8 2, .int .u8 5] _ 1 3 rfl (by decide), by decide⟩
  have hnew1 : ∀ w : World, Ints .u8 (w.alloc (.cells #[.int .u8 7] 5)) (.slice (some ⟨w.heap.size, 0, none⟩) 1 1) [7] := fun w => ⟨SlC.new [.int .u8 7] _ 1 1 rfl (by decide), by decide⟩
  have ht : Hid (takeR [1, 2, 5] 0 0 2 = ([1, 2], 2, 0)) := by show _ = _; decide
  have hl : Hid (leN [1, 2] = 513) := by show _ = _; decide
  have HN := Lib.hid hnew; clear hnew
  have HN1 := Lib.hid hnew1; clear hnew1
  go_enter Try.func8, Try.ntmps8
  go_wp2_with (first
    | (go_at_call 14; refine (read_any _ _ _ (HN.out _) (by decide)).mono ?_; rintro e w1 ⟨p, rfl, hp1, hr1, hx1⟩)
    | (go_at_call 18; refine (u16_any p _ _ _ _ hr1 (by decide)).mono ?_; rw [ht.out]; simp only [hl.out]; rintro e w2 ⟨rfl, hr2, hc2⟩)
    | (go_at_call 19; refine (left_any p _ _ _ _ hr2).mono ?_; rintro e w3 ⟨rfl, hx3⟩)
    | (go_at_call 11; refine (put32_any _ _ 1 _ (HN1.out _) (by decide) (by decide) (by decide)).mono ?_; rintro e w4 ⟨a4, k4, rfl, hown4, hx4⟩))
  go_ret
  have hp : w.heap.size ≤ p := by simp at hp1; omega
  have h1 : Ext w w1 := ((Ext.refl w).alloc _).trans hx1
  have h2 : Ext w w2 := h1.chgTrans hc2 (by intro i hi; simp at hi; omega)
  exact ⟨rfl, ((h2.trans hx3).alloc _).trans hx4⟩

theorem wrap_u16_eq (x : Int) : IntKind.u16.wrap x = x % 65536 := by simp [IntKind.wrap, IntKind.bits, IntKind.signed]

theorem lowB_mod16 (x : Int) : lowB (x % 65536) 2 = lowB x 2 := by
  simp only [lowB, List.cons.injEq, and_true]
  omega

theorem nil_ints (w : World) : Ints .u8 w (.slice none 0 0) [] := Ints.nil _ _

set_option maxHeartbeats 2000000 in
/-- OctetPuts. -/
theorem puts_walk (v : Value) (zs : List Int) (x : Int) (w : World) (h : Ints .u8 w v zs) (hb : zs.length + 8 ≤ 140737488355328) (hx0 : 0 ≤ x) (hx1 : x < 4294967296) :
    Calls Try.prog 3 #[v, .int .u32 x] w fun e w' => e = .returned (.bool true) ∧ Ext w w' := by
  obtain ⟨a0, k0, rfl⟩ : ∃ a cap, v = .slice a zs.length cap := by obtain ⟨⟨_, a, cap, rfl, _⟩, _⟩ := h; exact ⟨a, cap, rfl⟩
  go_enter Try.func3, Try.ntmps3
  go_wp2_with fail
  refine (wakes_any _).mono ?_
  rintro e w1 ⟨rfl, e1⟩
  go_wp2_with fail
  refine (both_any _ _ zs [] _ (h.ext e1) (nil_ints _) (by simp; omega)).mono ?_
  rintro e w2 ⟨a2, k2, rfl, i2, e2⟩
  rw [List.append_nil] at i2
  simp only [List.length_nil, Nat.add_zero] at i2 ⊢
  go_wp2_with fail
  refine (put16_any _ zs (IntKind.u16.wrap x) _ (h.ext (e1.trans e2)) hb (by rw [wrap_u16_eq]; omega) (by rw [wrap_u16_eq]; omega)).mono ?_
  rintro e w3 ⟨a3, k3, rfl, o3, e3⟩
  have i3 := Ints.of_owned (zs := zs ++ lowB (IntKind.u16.wrap x) 2) o3 (fun z hz => (List.mem_append.1 hz).elim (h.2 z) (lowB_wf _ _ z))
  rw [wrap_u16_eq, lowB_mod16] at i3
  clear o3
  go_wp2_with fail
  refine (put32_any _ zs x _ (h.ext ((e1.trans e2).trans e3)) hb hx0 hx1).mono ?_
  rintro e w4 ⟨a4, k4, rfl, o4, e4⟩
  have i4 := Ints.of_owned (zs := zs ++ lowB x 4) o4 (fun z hz => (List.mem_append.1 hz).elim (h.2 z) (lowB_wf _ _ z))
  clear o4
  go_wp2_with fail
  refine (low_any x 2 _ (by decide) hx0 (by omega)).mono ?_
  rintro e w5 ⟨a5, k5, rfl, i5, e5⟩
  go_wp2_with fail
  refine (both_any _ _ zs (lowB x 2) _ (i2.ext ((e3.trans e4).trans e5)) i5 (by rw [lowB_length]; omega)).mono ?_
  rintro e w6 ⟨a6, k6, rfl, i6, e6⟩
  go_wp2_with fail
  refine (same_any _ _ _ _ _ (i3.ext ((e4.trans e5).trans e6)) i6).mono ?_
  rintro e w7 ⟨rfl, e7⟩
  simp only [decide_true]
  go_wp2_with fail
  refine (low_any x 4 _ (by decide) hx0 (by omega)).mono ?_
  rintro e w8 ⟨a8, k8, rfl, i8, e8⟩
  go_wp2_with fail
  refine (both_any _ _ zs (lowB x 4) _ (i2.ext ((((e3.trans e4).trans e5).trans e6).trans (e7.trans e8))) i8 (by rw [lowB_length]; omega)).mono ?_
  rintro e w9 ⟨a9, k9, rfl, i9, e9⟩
  go_wp2_with fail
  refine (same_any _ _ _ _ _ (i4.ext ((((e5.trans e6).trans e7).trans e8).trans e9)) i9).mono ?_
  rintro e w10 ⟨rfl, e10⟩
  simp only [decide_true]
  have e37 := (((e3.trans e4).trans e5).trans e6).trans e7
  have e310 := e37.trans ((e8.trans e9).trans e10)
  go_wp2_with fail
  refine (same_any _ _ zs zs _ (h.ext ((e1.trans e2).trans e310)) (i2.ext e310)).mono ?_
  rintro e w11 ⟨rfl, e11⟩
  simp only [decide_true]
  go_wp2
  go_ret
  exact ⟨rfl, ((e1.trans e2).trans e310).trans e11⟩

end Go.Proofs.Ytooieiehmffgdaa
