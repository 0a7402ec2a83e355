/- The contract of the reference's Do. Conditions: the theorems' own premises. -/
import Derived.Test.YtooieiehmffgdaaOct8
import Derived.Deep.RegionWith
namespace Go.Proofs.Ytooieiehmffgdaa
open Go.RowKit
set_option linter.unusedVariables false

/-- What Do hands back. -/
def DoPost (a : Option Addr) (cap : Nat) (bs : List Int) (kd er : Int) (T : List Int × Nat × Int) (w : World) (e : Ending) (w' : World) : Prop := ∃ a2 c2,
  e = .returned (.tuple #[.agg #[.slice a bs.length cap, .int .i64 T.2.1, .int .i64 T.2.2], .agg #[.int .i64 (toldN kd er T), .slice a2 (toldB kd T).length c2]]) ∧
  Ints .u8 w' (.slice a2 (toldB kd T).length c2) (toldB kd T) ∧ Ext w w'

theorem DoPost.ok {a : Option Addr} {cap : Nat} {bs : List Int} {kd er x : Int} {at_ m : Nat} {out : List Int} {w w' : World} {e : Ending} (hx : (if kd < 3 then leN out else if kd < 6 then sgnN out else 0) = x) (hk : kd ≠ 6)
    (he : e = .returned (.tuple #[.agg #[.slice a bs.length cap, .int .i64 ((at_ : Int) + m), .int .i64 0], .agg #[.int .i64 x, .slice none 0 0]])) (hw : Ext w w') : DoPost a cap bs kd er (out, at_ + m, 0) w e w' := by
  have h1 : toldN kd er (out, at_ + m, 0) = x := by unfold toldN; rw [if_neg (by simp)]; exact hx
  have h2 : toldB kd (out, at_ + m, 0) = [] := by unfold toldB; rw [if_neg (by simp), if_neg hk]
  refine ⟨none, 0, ?_, ?_, hw⟩
  · rw [h1, h2, he]; rfl
  · rw [h2]; exact Ints.nil _ _

theorem DoPost.raw {a a2 : Option Addr} {cap c2 : Nat} {bs : List Int} {er : Int} {at_ m : Nat} {out : List Int} {w w' : World} {e : Ending} (hl : out.length = m)
    (he : e = .returned (.tuple #[.agg #[.slice a bs.length cap, .int .i64 ((at_ : Int) + m), .int .i64 0], .agg #[.int .i64 0, .slice a2 m c2]])) (ho : Ints .u8 w' (.slice a2 m c2) out) (hw : Ext w w') : DoPost a cap bs 6 er (out, at_ + m, 0) w e w' := by
  have h1 : toldN 6 er (out, at_ + m, 0) = 0 := rfl
  have h2 : toldB 6 (out, at_ + m, 0) = out := rfl
  refine ⟨a2, c2, ?_, ?_, hw⟩
  · rw [h1, h2, he, hl]; rfl
  · rw [h2, hl]; exact ho

theorem DoPost.refused {a : Option Addr} {cap : Nat} {bs : List Int} {kd er : Int} {at_ : Nat} {x : Int} {w w' : World} {e : Ending} (hx : x ≠ 0) (he : e = .returned (.tuple #[.agg #[.slice a bs.length cap, .int .i64 at_, .int .i64 x], .agg #[.int .i64 0, .slice none 0 0]])) (hw : Ext w w') : DoPost a cap bs kd er ([], at_, x) w e w' := by
  have h1 : toldN kd er ([], at_, x) = 0 := by unfold toldN; rw [if_pos hx]
  have h2 : toldB kd ([], at_, x) = [] := by unfold toldB; rw [if_pos hx]
  refine ⟨none, 0, ?_, ?_, hw⟩
  · rw [h1, h2]; exact he
  · rw [h2]; exact Ints.nil _ _

set_option maxHeartbeats 4000000 in
theorem do_0 (a : Option Addr) (cap : Nat) (bs : List Int) (at_ : Nat) (er n : Int) (w : World) (h : Ints .u8 w (.slice a bs.length cap) bs) (hat : at_ ≤ bs.length) (hn : (Lit.int .i64 n).wf = true) :
    Calls Try.prog 23 #[.agg #[.slice a bs.length cap, .int .i64 at_, .int .i64 er], .agg #[.int .i64 0, .int .i64 n]] w (DoPost a cap bs 0 er (takeR bs at_ er (askN 0 n)) w) := by
  have hask : askN 0 n = 1 := by simp [askN]
  rw [hask]
  obtain ⟨_, hbc, hcm, hcz⟩ := h.cap
  have hnb := wf_i64_iff hn
  by_cases he : er = 0
  · subst he
    by_cases hneg : (1 : Int) < 0
    · exact absurd hneg (by decide)
    · by_cases hlt : (bs.length : Int) - at_ < 1
      · have hT : takeR bs at_ 0 1 = ([], at_, 7) := by unfold takeR; rw [if_neg (by decide), if_neg hneg, if_pos hlt]
        rw [hT]
        go_enter Try.func23, Try.ntmps23
        go_wp2
        exact bodyPost_ret (v := .tuple #[.agg #[.slice a bs.length cap, .int .i64 at_, .int .i64 7], .agg #[.int .i64 0, .slice none 0 0]]) (by simp [results, Try.results23, go_sem]) rfl (DoPost.refused (by decide) rfl (((((Ext.refl w).alloc _).alloc _).alloc _).alloc _))
      · obtain ⟨m, hm⟩ : ∃ m : Nat, m = 1 := ⟨_, rfl⟩
        have hle : at_ + m ≤ bs.length := by omega
        have hT : takeR bs at_ 0 1 = ((bs.drop at_).take m, at_ + m, 0) := by subst hm; unfold takeR; rw [if_neg (by decide), if_neg (by decide), if_neg hlt]; rfl
        rw [hT]
        clear hneg hlt hT hask
        have hlen : ((bs.drop at_).take m).length = m := by rw [List.length_take, List.length_drop]; omega
        have HC1 : Hid (cap = at_ → Ints .u8 w (.slice a m 0) ((bs.drop at_).take m)) := by
          intro e
          have := h.cut at_ (at_ + m) (by omega) (by omega)
          rw [Nat.add_sub_cancel_left, if_pos e, e, Nat.sub_self] at this
          exact this
        have HC2 : Hid (¬ cap = at_ → Ints .u8 w (.slice (a.map (·.add at_)) m (cap - at_)) ((bs.drop at_).take m)) := by
          intro e
          have := h.cut at_ (at_ + m) (by omega) (by omega)
          rw [Nat.add_sub_cancel_left, if_neg e] at this
          exact this
        have HLEN := Lib.hid hlen; clear hlen
        subst hm
        generalize (bs.drop at_).take 1 = out at *
        have hca : ¬ cap = at_ := by omega
        have HI := Lib.hid (HC2.out hca)
        clear HC1 HC2
        have hb := leN_bound out fun z hz => u8_of_wf (HI.out.2 z hz)
        have hb1 := hb.1
        have hb2 : leN out < 4294967296 := by
          have := pow256_le out.length 4 (by rw [HLEN.out]; decide)
          omega
        clear hb
        have HLEN2 : Hid ((.slice (a.map (·.add at_)) 1 (cap - at_)) = Value.slice (a.map (·.add at_)) out.length (cap - at_)) := by show _ = _; rw [HLEN.out]
        generalize hy : leN out = y at *
        have HY := Lib.hid hy; clear hy
        go_enter Try.func23, Try.ntmps23
        go_wp2_with fail
        go_region_with (go_at_call 30; refine (refnumber_any _ out _ (by refine HI.out.ext ?_; (repeat (first | exact Ext.refl _ | refine Ext.drew ?_ | refine Ext.drewN ?_ _ | refine Ext.alloc ?_ _))) (by rw [HLEN.out]; decide)).mono ?_; rw [HY.out]; rintro e w1 ⟨rfl, rfl⟩)
        all_goals
          go_wp2
          exact bodyPost_ret (v := .tuple #[.agg #[.slice a bs.length cap, .int .i64 ((at_ : Int) + 1), .int .i64 0], .agg #[.int .i64 (y), .slice none 0 0]]) (by simp [results, Try.results23, go_sem, u64_i64 y hb1 hb2]) rfl (DoPost.ok (m := 1) (x := y) (by simp [HY.out]) (by decide) rfl (by repeat (first | exact Ext.refl _ | refine Ext.drew ?_ | refine Ext.drewN ?_ _ | refine Ext.alloc ?_ _)))
  · have hT : takeR bs at_ er 1 = ([], at_, er) := by unfold takeR; rw [if_pos he]
    rw [hT]
    have he2 : (er != 0) = true := by simpa using he
    go_enter Try.func23, Try.ntmps23
    go_wp2
    exact bodyPost_ret (v := .tuple #[.agg #[.slice a bs.length cap, .int .i64 at_, .int .i64 er], .agg #[.int .i64 0, .slice none 0 0]]) (by simp [results, Try.results23, go_sem]) rfl (DoPost.refused he rfl (((((Ext.refl w).alloc _).alloc _).alloc _).alloc _))

set_option maxHeartbeats 4000000 in
theorem do_1 (a : Option Addr) (cap : Nat) (bs : List Int) (at_ : Nat) (er n : Int) (w : World) (h : Ints .u8 w (.slice a bs.length cap) bs) (hat : at_ ≤ bs.length) (hn : (Lit.int .i64 n).wf = true) :
    Calls Try.prog 23 #[.agg #[.slice a bs.length cap, .int .i64 at_, .int .i64 er], .agg #[.int .i64 1, .int .i64 n]] w (DoPost a cap bs 1 er (takeR bs at_ er (askN 1 n)) w) := by
  have hask : askN 1 n = 2 := by simp [askN]
  rw [hask]
  obtain ⟨_, hbc, hcm, hcz⟩ := h.cap
  have hnb := wf_i64_iff hn
  by_cases he : er = 0
  · subst he
    by_cases hneg : (2 : Int) < 0
    · exact absurd hneg (by decide)
    · by_cases hlt : (bs.length : Int) - at_ < 2
      · have hT : takeR bs at_ 0 2 = ([], at_, 7) := by unfold takeR; rw [if_neg (by decide), if_neg hneg, if_pos hlt]
        rw [hT]
        go_enter Try.func23, Try.ntmps23
        go_wp2
        exact bodyPost_ret (v := .tuple #[.agg #[.slice a bs.length cap, .int .i64 at_, .int .i64 7], .agg #[.int .i64 0, .slice none 0 0]]) (by simp [results, Try.results23, go_sem]) rfl (DoPost.refused (by decide) rfl (((((Ext.refl w).alloc _).alloc _).alloc _).alloc _))
      · obtain ⟨m, hm⟩ : ∃ m : Nat, m = 2 := ⟨_, rfl⟩
        have hle : at_ + m ≤ bs.length := by omega
        have hT : takeR bs at_ 0 2 = ((bs.drop at_).take m, at_ + m, 0) := by subst hm; unfold takeR; rw [if_neg (by decide), if_neg (by decide), if_neg hlt]; rfl
        rw [hT]
        clear hneg hlt hT hask
        have hlen : ((bs.drop at_).take m).length = m := by rw [List.length_take, List.length_drop]; omega
        have HC1 : Hid (cap = at_ → Ints .u8 w (.slice a m 0) ((bs.drop at_).take m)) := by
          intro e
          have := h.cut at_ (at_ + m) (by omega) (by omega)
          rw [Nat.add_sub_cancel_left, if_pos e, e, Nat.sub_self] at this
          exact this
        have HC2 : Hid (¬ cap = at_ → Ints .u8 w (.slice (a.map (·.add at_)) m (cap - at_)) ((bs.drop at_).take m)) := by
          intro e
          have := h.cut at_ (at_ + m) (by omega) (by omega)
          rw [Nat.add_sub_cancel_left, if_neg e] at this
          exact this
        have HLEN := Lib.hid hlen; clear hlen
        subst hm
        generalize (bs.drop at_).take 2 = out at *
        have hca : ¬ cap = at_ := by omega
        have HI := Lib.hid (HC2.out hca)
        clear HC1 HC2
        have hb := leN_bound out fun z hz => u8_of_wf (HI.out.2 z hz)
        have hb1 := hb.1
        have hb2 : leN out < 4294967296 := by
          have := pow256_le out.length 4 (by rw [HLEN.out]; decide)
          omega
        clear hb
        have HLEN2 : Hid ((.slice (a.map (·.add at_)) 2 (cap - at_)) = Value.slice (a.map (·.add at_)) out.length (cap - at_)) := by show _ = _; rw [HLEN.out]
        generalize hy : leN out = y at *
        have HY := Lib.hid hy; clear hy
        go_enter Try.func23, Try.ntmps23
        go_wp2_with fail
        go_region_with (go_at_call 30; refine (refnumber_any _ out _ (by refine HI.out.ext ?_; (repeat (first | exact Ext.refl _ | refine Ext.drew ?_ | refine Ext.drewN ?_ _ | refine Ext.alloc ?_ _))) (by rw [HLEN.out]; decide)).mono ?_; rw [HY.out]; rintro e w1 ⟨rfl, rfl⟩)
        all_goals
          go_wp2
          exact bodyPost_ret (v := .tuple #[.agg #[.slice a bs.length cap, .int .i64 ((at_ : Int) + 2), .int .i64 0], .agg #[.int .i64 (y), .slice none 0 0]]) (by simp [results, Try.results23, go_sem, u64_i64 y hb1 hb2]) rfl (DoPost.ok (m := 2) (x := y) (by simp [HY.out]) (by decide) rfl (by repeat (first | exact Ext.refl _ | refine Ext.drew ?_ | refine Ext.drewN ?_ _ | refine Ext.alloc ?_ _)))
  · have hT : takeR bs at_ er 2 = ([], at_, er) := by unfold takeR; rw [if_pos he]
    rw [hT]
    have he2 : (er != 0) = true := by simpa using he
    go_enter Try.func23, Try.ntmps23
    go_wp2
    exact bodyPost_ret (v := .tuple #[.agg #[.slice a bs.length cap, .int .i64 at_, .int .i64 er], .agg #[.int .i64 0, .slice none 0 0]]) (by simp [results, Try.results23, go_sem]) rfl (DoPost.refused he rfl (((((Ext.refl w).alloc _).alloc _).alloc _).alloc _))

set_option maxHeartbeats 4000000 in
theorem do_2 (a : Option Addr) (cap : Nat) (bs : List Int) (at_ : Nat) (er n : Int) (w : World) (h : Ints .u8 w (.slice a bs.length cap) bs) (hat : at_ ≤ bs.length) (hn : (Lit.int .i64 n).wf = true) :
    Calls Try.prog 23 #[.agg #[.slice a bs.length cap, .int .i64 at_, .int .i64 er], .agg #[.int .i64 2, .int .i64 n]] w (DoPost a cap bs 2 er (takeR bs at_ er (askN 2 n)) w) := by
  have hask : askN 2 n = 4 := by simp [askN]
  rw [hask]
  obtain ⟨_, hbc, hcm, hcz⟩ := h.cap
  have hnb := wf_i64_iff hn
  by_cases he : er = 0
  · subst he
    by_cases hneg : (4 : Int) < 0
    · exact absurd hneg (by decide)
    · by_cases hlt : (bs.length : Int) - at_ < 4
      · have hT : takeR bs at_ 0 4 = ([], at_, 7) := by unfold takeR; rw [if_neg (by decide), if_neg hneg, if_pos hlt]
        rw [hT]
        go_enter Try.func23, Try.ntmps23
        go_wp2
        exact bodyPost_ret (v := .tuple #[.agg #[.slice a bs.length cap, .int .i64 at_, .int .i64 7], .agg #[.int .i64 0, .slice none 0 0]]) (by simp [results, Try.results23, go_sem]) rfl (DoPost.refused (by decide) rfl (((((Ext.refl w).alloc _).alloc _).alloc _).alloc _))
      · obtain ⟨m, hm⟩ : ∃ m : Nat, m = 4 := ⟨_, rfl⟩
        have hle : at_ + m ≤ bs.length := by omega
        have hT : takeR bs at_ 0 4 = ((bs.drop at_).take m, at_ + m, 0) := by subst hm; unfold takeR; rw [if_neg (by decide), if_neg (by decide), if_neg hlt]; rfl
        rw [hT]
        clear hneg hlt hT hask
        have hlen : ((bs.drop at_).take m).length = m := by rw [List.length_take, List.length_drop]; omega
        have HC1 : Hid (cap = at_ → Ints .u8 w (.slice a m 0) ((bs.drop at_).take m)) := by
          intro e
          have := h.cut at_ (at_ + m) (by omega) (by omega)
          rw [Nat.add_sub_cancel_left, if_pos e, e, Nat.sub_self] at this
          exact this
        have HC2 : Hid (¬ cap = at_ → Ints .u8 w (.slice (a.map (·.add at_)) m (cap - at_)) ((bs.drop at_).take m)) := by
          intro e
          have := h.cut at_ (at_ + m) (by omega) (by omega)
          rw [Nat.add_sub_cancel_left, if_neg e] at this
          exact this
        have HLEN := Lib.hid hlen; clear hlen
        subst hm
        generalize (bs.drop at_).take 4 = out at *
        have hca : ¬ cap = at_ := by omega
        have HI := Lib.hid (HC2.out hca)
        clear HC1 HC2
        have hb := leN_bound out fun z hz => u8_of_wf (HI.out.2 z hz)
        have hb1 := hb.1
        have hb2 : leN out < 4294967296 := by
          have := pow256_le out.length 4 (by rw [HLEN.out]; decide)
          omega
        clear hb
        have HLEN2 : Hid ((.slice (a.map (·.add at_)) 4 (cap - at_)) = Value.slice (a.map (·.add at_)) out.length (cap - at_)) := by show _ = _; rw [HLEN.out]
        generalize hy : leN out = y at *
        have HY := Lib.hid hy; clear hy
        go_enter Try.func23, Try.ntmps23
        go_wp2_with fail
        go_region_with (go_at_call 30; refine (refnumber_any _ out _ (by refine HI.out.ext ?_; (repeat (first | exact Ext.refl _ | refine Ext.drew ?_ | refine Ext.drewN ?_ _ | refine Ext.alloc ?_ _))) (by rw [HLEN.out]; decide)).mono ?_; rw [HY.out]; rintro e w1 ⟨rfl, rfl⟩)
        all_goals
          go_wp2
          exact bodyPost_ret (v := .tuple #[.agg #[.slice a bs.length cap, .int .i64 ((at_ : Int) + 4), .int .i64 0], .agg #[.int .i64 (y), .slice none 0 0]]) (by simp [results, Try.results23, go_sem, u64_i64 y hb1 hb2]) rfl (DoPost.ok (m := 4) (x := y) (by simp [HY.out]) (by decide) rfl (by repeat (first | exact Ext.refl _ | refine Ext.drew ?_ | refine Ext.drewN ?_ _ | refine Ext.alloc ?_ _)))
  · have hT : takeR bs at_ er 4 = ([], at_, er) := by unfold takeR; rw [if_pos he]
    rw [hT]
    have he2 : (er != 0) = true := by simpa using he
    go_enter Try.func23, Try.ntmps23
    go_wp2
    exact bodyPost_ret (v := .tuple #[.agg #[.slice a bs.length cap, .int .i64 at_, .int .i64 er], .agg #[.int .i64 0, .slice none 0 0]]) (by simp [results, Try.results23, go_sem]) rfl (DoPost.refused he rfl (((((Ext.refl w).alloc _).alloc _).alloc _).alloc _))

set_option maxHeartbeats 4000000 in
theorem do_3 (a : Option Addr) (cap : Nat) (bs : List Int) (at_ : Nat) (er n : Int) (w : World) (h : Ints .u8 w (.slice a bs.length cap) bs) (hat : at_ ≤ bs.length) (hn : (Lit.int .i64 n).wf = true) :
    Calls Try.prog 23 #[.agg #[.slice a bs.length cap, .int .i64 at_, .int .i64 er], .agg #[.int .i64 3, .int .i64 n]] w (DoPost a cap bs 3 er (takeR bs at_ er (askN 3 n)) w) := by
  have hask : askN 3 n = 1 := by simp [askN]
  rw [hask]
  obtain ⟨_, hbc, hcm, hcz⟩ := h.cap
  have hnb := wf_i64_iff hn
  by_cases he : er = 0
  · subst he
    by_cases hneg : (1 : Int) < 0
    · exact absurd hneg (by decide)
    · by_cases hlt : (bs.length : Int) - at_ < 1
      · have hT : takeR bs at_ 0 1 = ([], at_, 7) := by unfold takeR; rw [if_neg (by decide), if_neg hneg, if_pos hlt]
        rw [hT]
        go_enter Try.func23, Try.ntmps23
        go_wp2
        exact bodyPost_ret (v := .tuple #[.agg #[.slice a bs.length cap, .int .i64 at_, .int .i64 7], .agg #[.int .i64 0, .slice none 0 0]]) (by simp [results, Try.results23, go_sem]) rfl (DoPost.refused (by decide) rfl (((((Ext.refl w).alloc _).alloc _).alloc _).alloc _))
      · obtain ⟨m, hm⟩ : ∃ m : Nat, m = 1 := ⟨_, rfl⟩
        have hle : at_ + m ≤ bs.length := by omega
        have hT : takeR bs at_ 0 1 = ((bs.drop at_).take m, at_ + m, 0) := by subst hm; unfold takeR; rw [if_neg (by decide), if_neg (by decide), if_neg hlt]; rfl
        rw [hT]
        clear hneg hlt hT hask
        have hlen : ((bs.drop at_).take m).length = m := by rw [List.length_take, List.length_drop]; omega
        have HC1 : Hid (cap = at_ → Ints .u8 w (.slice a m 0) ((bs.drop at_).take m)) := by
          intro e
          have := h.cut at_ (at_ + m) (by omega) (by omega)
          rw [Nat.add_sub_cancel_left, if_pos e, e, Nat.sub_self] at this
          exact this
        have HC2 : Hid (¬ cap = at_ → Ints .u8 w (.slice (a.map (·.add at_)) m (cap - at_)) ((bs.drop at_).take m)) := by
          intro e
          have := h.cut at_ (at_ + m) (by omega) (by omega)
          rw [Nat.add_sub_cancel_left, if_neg e] at this
          exact this
        have HLEN := Lib.hid hlen; clear hlen
        subst hm
        generalize (bs.drop at_).take 1 = out at *
        have hca : ¬ cap = at_ := by omega
        have HI := Lib.hid (HC2.out hca)
        clear HC1 HC2
        have HLEN2 : Hid ((.slice (a.map (·.add at_)) 1 (cap - at_)) = Value.slice (a.map (·.add at_)) out.length (cap - at_)) := by show _ = _; rw [HLEN.out]
        go_enter Try.func23, Try.ntmps23
        go_wp2_with fail
        go_region_with (go_at_call 31; refine (refsigned_any _ out _ (by refine HI.out.ext ?_; (repeat (first | exact Ext.refl _ | refine Ext.drew ?_ | refine Ext.drewN ?_ _ | refine Ext.alloc ?_ _))) (by rw [HLEN.out]; decide) (by rw [HLEN.out]; decide)).mono ?_; rintro e w1 ⟨rfl, rfl⟩)
        all_goals
          go_wp2
          exact bodyPost_ret (v := .tuple #[.agg #[.slice a bs.length cap, .int .i64 ((at_ : Int) + 1), .int .i64 0], .agg #[.int .i64 (sgnN out), .slice none 0 0]]) (by simp [results, Try.results23, go_sem]) rfl (DoPost.ok (m := 1) (x := sgnN out) (by simp) (by decide) rfl (by repeat (first | exact Ext.refl _ | refine Ext.drew ?_ | refine Ext.drewN ?_ _ | refine Ext.alloc ?_ _)))
  · have hT : takeR bs at_ er 1 = ([], at_, er) := by unfold takeR; rw [if_pos he]
    rw [hT]
    have he2 : (er != 0) = true := by simpa using he
    go_enter Try.func23, Try.ntmps23
    go_wp2
    exact bodyPost_ret (v := .tuple #[.agg #[.slice a bs.length cap, .int .i64 at_, .int .i64 er], .agg #[.int .i64 0, .slice none 0 0]]) (by simp [results, Try.results23, go_sem]) rfl (DoPost.refused he rfl (((((Ext.refl w).alloc _).alloc _).alloc _).alloc _))

set_option maxHeartbeats 4000000 in
theorem do_4 (a : Option Addr) (cap : Nat) (bs : List Int) (at_ : Nat) (er n : Int) (w : World) (h : Ints .u8 w (.slice a bs.length cap) bs) (hat : at_ ≤ bs.length) (hn : (Lit.int .i64 n).wf = true) :
    Calls Try.prog 23 #[.agg #[.slice a bs.length cap, .int .i64 at_, .int .i64 er], .agg #[.int .i64 4, .int .i64 n]] w (DoPost a cap bs 4 er (takeR bs at_ er (askN 4 n)) w) := by
  have hask : askN 4 n = 2 := by simp [askN]
  rw [hask]
  obtain ⟨_, hbc, hcm, hcz⟩ := h.cap
  have hnb := wf_i64_iff hn
  by_cases he : er = 0
  · subst he
    by_cases hneg : (2 : Int) < 0
    · exact absurd hneg (by decide)
    · by_cases hlt : (bs.length : Int) - at_ < 2
      · have hT : takeR bs at_ 0 2 = ([], at_, 7) := by unfold takeR; rw [if_neg (by decide), if_neg hneg, if_pos hlt]
        rw [hT]
        go_enter Try.func23, Try.ntmps23
        go_wp2
        exact bodyPost_ret (v := .tuple #[.agg #[.slice a bs.length cap, .int .i64 at_, .int .i64 7], .agg #[.int .i64 0, .slice none 0 0]]) (by simp [results, Try.results23, go_sem]) rfl (DoPost.refused (by decide) rfl (((((Ext.refl w).alloc _).alloc _).alloc _).alloc _))
      · obtain ⟨m, hm⟩ : ∃ m : Nat, m = 2 := ⟨_, rfl⟩
        have hle : at_ + m ≤ bs.length := by omega
        have hT : takeR bs at_ 0 2 = ((bs.drop at_).take m, at_ + m, 0) := by subst hm; unfold takeR; rw [if_neg (by decide), if_neg (by decide), if_neg hlt]; rfl
        rw [hT]
        clear hneg hlt hT hask
        have hlen : ((bs.drop at_).take m).length = m := by rw [List.length_take, List.length_drop]; omega
        have HC1 : Hid (cap = at_ → Ints .u8 w (.slice a m 0) ((bs.drop at_).take m)) := by
          intro e
          have := h.cut at_ (at_ + m) (by omega) (by omega)
          rw [Nat.add_sub_cancel_left, if_pos e, e, Nat.sub_self] at this
          exact this
        have HC2 : Hid (¬ cap = at_ → Ints .u8 w (.slice (a.map (·.add at_)) m (cap - at_)) ((bs.drop at_).take m)) := by
          intro e
          have := h.cut at_ (at_ + m) (by omega) (by omega)
          rw [Nat.add_sub_cancel_left, if_neg e] at this
          exact this
        have HLEN := Lib.hid hlen; clear hlen
        subst hm
        generalize (bs.drop at_).take 2 = out at *
        have hca : ¬ cap = at_ := by omega
        have HI := Lib.hid (HC2.out hca)
        clear HC1 HC2
        have HLEN2 : Hid ((.slice (a.map (·.add at_)) 2 (cap - at_)) = Value.slice (a.map (·.add at_)) out.length (cap - at_)) := by show _ = _; rw [HLEN.out]
        go_enter Try.func23, Try.ntmps23
        go_wp2_with fail
        go_region_with (go_at_call 31; refine (refsigned_any _ out _ (by refine HI.out.ext ?_; (repeat (first | exact Ext.refl _ | refine Ext.drew ?_ | refine Ext.drewN ?_ _ | refine Ext.alloc ?_ _))) (by rw [HLEN.out]; decide) (by rw [HLEN.out]; decide)).mono ?_; rintro e w1 ⟨rfl, rfl⟩)
        all_goals
          go_wp2
          exact bodyPost_ret (v := .tuple #[.agg #[.slice a bs.length cap, .int .i64 ((at_ : Int) + 2), .int .i64 0], .agg #[.int .i64 (sgnN out), .slice none 0 0]]) (by simp [results, Try.results23, go_sem]) rfl (DoPost.ok (m := 2) (x := sgnN out) (by simp) (by decide) rfl (by repeat (first | exact Ext.refl _ | refine Ext.drew ?_ | refine Ext.drewN ?_ _ | refine Ext.alloc ?_ _)))
  · have hT : takeR bs at_ er 2 = ([], at_, er) := by unfold takeR; rw [if_pos he]
    rw [hT]
    have he2 : (er != 0) = true := by simpa using he
    go_enter Try.func23, Try.ntmps23
    go_wp2
    exact bodyPost_ret (v := .tuple #[.agg #[.slice a bs.length cap, .int .i64 at_, .int .i64 er], .agg #[.int .i64 0, .slice none 0 0]]) (by simp [results, Try.results23, go_sem]) rfl (DoPost.refused he rfl (((((Ext.refl w).alloc _).alloc _).alloc _).alloc _))

set_option maxHeartbeats 4000000 in
theorem do_5 (a : Option Addr) (cap : Nat) (bs : List Int) (at_ : Nat) (er n : Int) (w : World) (h : Ints .u8 w (.slice a bs.length cap) bs) (hat : at_ ≤ bs.length) (hn : (Lit.int .i64 n).wf = true) :
    Calls Try.prog 23 #[.agg #[.slice a bs.length cap, .int .i64 at_, .int .i64 er], .agg #[.int .i64 5, .int .i64 n]] w (DoPost a cap bs 5 er (takeR bs at_ er (askN 5 n)) w) := by
  have hask : askN 5 n = 4 := by simp [askN]
  rw [hask]
  obtain ⟨_, hbc, hcm, hcz⟩ := h.cap
  have hnb := wf_i64_iff hn
  by_cases he : er = 0
  · subst he
    by_cases hneg : (4 : Int) < 0
    · exact absurd hneg (by decide)
    · by_cases hlt : (bs.length : Int) - at_ < 4
      · have hT : takeR bs at_ 0 4 = ([], at_, 7) := by unfold takeR; rw [if_neg (by decide), if_neg hneg, if_pos hlt]
        rw [hT]
        go_enter Try.func23, Try.ntmps23
        go_wp2
        exact bodyPost_ret (v := .tuple #[.agg #[.slice a bs.length cap, .int .i64 at_, .int .i64 7], .agg #[.int .i64 0, .slice none 0 0]]) (by simp [results, Try.results23, go_sem]) rfl (DoPost.refused (by decide) rfl (((((Ext.refl w).alloc _).alloc _).alloc _).alloc _))
      · obtain ⟨m, hm⟩ : ∃ m : Nat, m = 4 := ⟨_, rfl⟩
        have hle : at_ + m ≤ bs.length := by omega
        have hT : takeR bs at_ 0 4 = ((bs.drop at_).take m, at_ + m, 0) := by subst hm; unfold takeR; rw [if_neg (by decide), if_neg (by decide), if_neg hlt]; rfl
        rw [hT]
        clear hneg hlt hT hask
        have hlen : ((bs.drop at_).take m).length = m := by rw [List.length_take, List.length_drop]; omega
        have HC1 : Hid (cap = at_ → Ints .u8 w (.slice a m 0) ((bs.drop at_).take m)) := by
          intro e
          have := h.cut at_ (at_ + m) (by omega) (by omega)
          rw [Nat.add_sub_cancel_left, if_pos e, e, Nat.sub_self] at this
          exact this
        have HC2 : Hid (¬ cap = at_ → Ints .u8 w (.slice (a.map (·.add at_)) m (cap - at_)) ((bs.drop at_).take m)) := by
          intro e
          have := h.cut at_ (at_ + m) (by omega) (by omega)
          rw [Nat.add_sub_cancel_left, if_neg e] at this
          exact this
        have HLEN := Lib.hid hlen; clear hlen
        subst hm
        generalize (bs.drop at_).take 4 = out at *
        have hca : ¬ cap = at_ := by omega
        have HI := Lib.hid (HC2.out hca)
        clear HC1 HC2
        have HLEN2 : Hid ((.slice (a.map (·.add at_)) 4 (cap - at_)) = Value.slice (a.map (·.add at_)) out.length (cap - at_)) := by show _ = _; rw [HLEN.out]
        go_enter Try.func23, Try.ntmps23
        go_wp2_with fail
        go_region_with (go_at_call 31; refine (refsigned_any _ out _ (by refine HI.out.ext ?_; (repeat (first | exact Ext.refl _ | refine Ext.drew ?_ | refine Ext.drewN ?_ _ | refine Ext.alloc ?_ _))) (by rw [HLEN.out]; decide) (by rw [HLEN.out]; decide)).mono ?_; rintro e w1 ⟨rfl, rfl⟩)
        all_goals
          go_wp2
          exact bodyPost_ret (v := .tuple #[.agg #[.slice a bs.length cap, .int .i64 ((at_ : Int) + 4), .int .i64 0], .agg #[.int .i64 (sgnN out), .slice none 0 0]]) (by simp [results, Try.results23, go_sem]) rfl (DoPost.ok (m := 4) (x := sgnN out) (by simp) (by decide) rfl (by repeat (first | exact Ext.refl _ | refine Ext.drew ?_ | refine Ext.drewN ?_ _ | refine Ext.alloc ?_ _)))
  · have hT : takeR bs at_ er 4 = ([], at_, er) := by unfold takeR; rw [if_pos he]
    rw [hT]
    have he2 : (er != 0) = true := by simpa using he
    go_enter Try.func23, Try.ntmps23
    go_wp2
    exact bodyPost_ret (v := .tuple #[.agg #[.slice a bs.length cap, .int .i64 at_, .int .i64 er], .agg #[.int .i64 0, .slice none 0 0]]) (by simp [results, Try.results23, go_sem]) rfl (DoPost.refused he rfl (((((Ext.refl w).alloc _).alloc _).alloc _).alloc _))

set_option maxHeartbeats 4000000 in
theorem do_6 (a : Option Addr) (cap : Nat) (bs : List Int) (at_ : Nat) (er n : Int) (w : World) (h : Ints .u8 w (.slice a bs.length cap) bs) (hat : at_ ≤ bs.length) (hn : (Lit.int .i64 n).wf = true) :
    Calls Try.prog 23 #[.agg #[.slice a bs.length cap, .int .i64 at_, .int .i64 er], .agg #[.int .i64 6, .int .i64 n]] w (DoPost a cap bs 6 er (takeR bs at_ er (askN 6 n)) w) := by
  have hask : askN 6 n = n := by simp [askN]
  rw [hask]
  obtain ⟨_, hbc, hcm, hcz⟩ := h.cap
  have hnb := wf_i64_iff hn
  by_cases he : er = 0
  · subst he
    by_cases hneg : (n : Int) < 0
    · have hT : takeR bs at_ 0 n = ([], at_, 2) := by unfold takeR; rw [if_neg (by decide), if_pos hneg]
      rw [hT]
      go_enter Try.func23, Try.ntmps23
      go_wp2
      exact bodyPost_ret (v := .tuple #[.agg #[.slice a bs.length cap, .int .i64 at_, .int .i64 2], .agg #[.int .i64 0, .slice none 0 0]]) (by simp [results, Try.results23, go_sem]) rfl (DoPost.refused (by decide) rfl (((((Ext.refl w).alloc _).alloc _).alloc _).alloc _))
    · by_cases hlt : (bs.length : Int) - at_ < n
      · have hT : takeR bs at_ 0 n = ([], at_, 7) := by unfold takeR; rw [if_neg (by decide), if_neg hneg, if_pos hlt]
        rw [hT]
        go_enter Try.func23, Try.ntmps23
        go_wp2
        exact bodyPost_ret (v := .tuple #[.agg #[.slice a bs.length cap, .int .i64 at_, .int .i64 7], .agg #[.int .i64 0, .slice none 0 0]]) (by simp [results, Try.results23, go_sem]) rfl (DoPost.refused (by decide) rfl (((((Ext.refl w).alloc _).alloc _).alloc _).alloc _))
      · obtain ⟨m, rfl⟩ := Int.eq_ofNat_of_zero_le (show 0 ≤ n by omega)
        have hle : at_ + m ≤ bs.length := by omega
        have hT : takeR bs at_ 0 (m : Int) = ((bs.drop at_).take m, at_ + m, 0) := by unfold takeR; rw [if_neg (by decide), if_neg hneg, if_neg hlt]; rfl
        rw [hT]
        clear hneg hlt hT hask
        have hlen : ((bs.drop at_).take m).length = m := by rw [List.length_take, List.length_drop]; omega
        have HC1 : Hid (cap = at_ → Ints .u8 w (.slice a m 0) ((bs.drop at_).take m)) := by
          intro e
          have := h.cut at_ (at_ + m) (by omega) (by omega)
          rw [Nat.add_sub_cancel_left, if_pos e, e, Nat.sub_self] at this
          exact this
        have HC2 : Hid (¬ cap = at_ → Ints .u8 w (.slice (a.map (·.add at_)) m (cap - at_)) ((bs.drop at_).take m)) := by
          intro e
          have := h.cut at_ (at_ + m) (by omega) (by omega)
          rw [Nat.add_sub_cancel_left, if_neg e] at this
          exact this
        have HLEN := Lib.hid hlen; clear hlen
        skip
        generalize (bs.drop at_).take m = out at *
        by_cases hca : cap = at_
        · have HI := Lib.hid (HC1.out hca)
          clear HC1 HC2
          subst hca
          go_enter Try.func23, Try.ntmps23
          go_wp2
          exact bodyPost_ret (v := .tuple #[.agg #[.slice a bs.length cap, .int .i64 ((cap : Int) + m), .int .i64 0], .agg #[.int .i64 0, .slice a m 0]]) (by simp [results, Try.results23, go_sem]) rfl (DoPost.raw (at_ := cap) HLEN.out rfl (HI.out.ext (by repeat (first | exact Ext.refl _ | refine Ext.drew ?_ | refine Ext.drewN ?_ _ | refine Ext.alloc ?_ _))) (by repeat (first | exact Ext.refl _ | refine Ext.drew ?_ | refine Ext.drewN ?_ _ | refine Ext.alloc ?_ _)))
        · have HI := Lib.hid (HC2.out hca)
          clear HC1 HC2
          go_enter Try.func23, Try.ntmps23
          go_wp2
          exact bodyPost_ret (v := .tuple #[.agg #[.slice a bs.length cap, .int .i64 ((at_ : Int) + m), .int .i64 0], .agg #[.int .i64 0, .slice (a.map (·.add at_)) m (cap - at_)]]) (by simp [results, Try.results23, go_sem]) rfl (DoPost.raw HLEN.out rfl (HI.out.ext (by repeat (first | exact Ext.refl _ | refine Ext.drew ?_ | refine Ext.drewN ?_ _ | refine Ext.alloc ?_ _))) (by repeat (first | exact Ext.refl _ | refine Ext.drew ?_ | refine Ext.drewN ?_ _ | refine Ext.alloc ?_ _)))
  · have hT : takeR bs at_ er n = ([], at_, er) := by unfold takeR; rw [if_pos he]
    rw [hT]
    have he2 : (er != 0) = true := by simpa using he
    go_enter Try.func23, Try.ntmps23
    go_wp2
    exact bodyPost_ret (v := .tuple #[.agg #[.slice a bs.length cap, .int .i64 at_, .int .i64 er], .agg #[.int .i64 0, .slice none 0 0]]) (by simp [results, Try.results23, go_sem]) rfl (DoPost.refused he rfl (((((Ext.refl w).alloc _).alloc _).alloc _).alloc _))

set_option maxHeartbeats 4000000 in
theorem do_7 (a : Option Addr) (cap : Nat) (bs : List Int) (at_ : Nat) (er n : Int) (w : World) (h : Ints .u8 w (.slice a bs.length cap) bs) (hat : at_ ≤ bs.length) (hn : (Lit.int .i64 n).wf = true) :
    Calls Try.prog 23 #[.agg #[.slice a bs.length cap, .int .i64 at_, .int .i64 er], .agg #[.int .i64 7, .int .i64 n]] w (DoPost a cap bs 7 er (takeR bs at_ er (askN 7 n)) w) := by
  have hask : askN 7 n = n := by simp [askN]
  rw [hask]
  obtain ⟨_, hbc, hcm, hcz⟩ := h.cap
  have hnb := wf_i64_iff hn
  by_cases he : er = 0
  · subst he
    by_cases hneg : (n : Int) < 0
    · have hT : takeR bs at_ 0 n = ([], at_, 2) := by unfold takeR; rw [if_neg (by decide), if_pos hneg]
      rw [hT]
      go_enter Try.func23, Try.ntmps23
      go_wp2
      exact bodyPost_ret (v := .tuple #[.agg #[.slice a bs.length cap, .int .i64 at_, .int .i64 2], .agg #[.int .i64 0, .slice none 0 0]]) (by simp [results, Try.results23, go_sem]) rfl (DoPost.refused (by decide) rfl (((((Ext.refl w).alloc _).alloc _).alloc _).alloc _))
    · by_cases hlt : (bs.length : Int) - at_ < n
      · have hT : takeR bs at_ 0 n = ([], at_, 7) := by unfold takeR; rw [if_neg (by decide), if_neg hneg, if_pos hlt]
        rw [hT]
        go_enter Try.func23, Try.ntmps23
        go_wp2
        exact bodyPost_ret (v := .tuple #[.agg #[.slice a bs.length cap, .int .i64 at_, .int .i64 7], .agg #[.int .i64 0, .slice none 0 0]]) (by simp [results, Try.results23, go_sem]) rfl (DoPost.refused (by decide) rfl (((((Ext.refl w).alloc _).alloc _).alloc _).alloc _))
      · obtain ⟨m, rfl⟩ := Int.eq_ofNat_of_zero_le (show 0 ≤ n by omega)
        have hle : at_ + m ≤ bs.length := by omega
        have hT : takeR bs at_ 0 (m : Int) = ((bs.drop at_).take m, at_ + m, 0) := by unfold takeR; rw [if_neg (by decide), if_neg hneg, if_neg hlt]; rfl
        rw [hT]
        clear hneg hlt hT hask
        have hlen : ((bs.drop at_).take m).length = m := by rw [List.length_take, List.length_drop]; omega
        have HC1 : Hid (cap = at_ → Ints .u8 w (.slice a m 0) ((bs.drop at_).take m)) := by
          intro e
          have := h.cut at_ (at_ + m) (by omega) (by omega)
          rw [Nat.add_sub_cancel_left, if_pos e, e, Nat.sub_self] at this
          exact this
        have HC2 : Hid (¬ cap = at_ → Ints .u8 w (.slice (a.map (·.add at_)) m (cap - at_)) ((bs.drop at_).take m)) := by
          intro e
          have := h.cut at_ (at_ + m) (by omega) (by omega)
          rw [Nat.add_sub_cancel_left, if_neg e] at this
          exact this
        have HLEN := Lib.hid hlen; clear hlen
        skip
        generalize (bs.drop at_).take m = out at *
        by_cases hca : cap = at_
        · have HI := Lib.hid (HC1.out hca)
          clear HC1 HC2
          subst hca
          go_enter Try.func23, Try.ntmps23
          go_wp2
          exact bodyPost_ret (v := .tuple #[.agg #[.slice a bs.length cap, .int .i64 ((cap : Int) + m), .int .i64 0], .agg #[.int .i64 0, .slice none 0 0]]) (by simp [results, Try.results23, go_sem]) rfl (DoPost.ok (x := 0) (by simp) (by decide) rfl (by repeat (first | exact Ext.refl _ | refine Ext.drew ?_ | refine Ext.drewN ?_ _ | refine Ext.alloc ?_ _)))
        · have HI := Lib.hid (HC2.out hca)
          clear HC1 HC2
          go_enter Try.func23, Try.ntmps23
          go_wp2
          exact bodyPost_ret (v := .tuple #[.agg #[.slice a bs.length cap, .int .i64 ((at_ : Int) + m), .int .i64 0], .agg #[.int .i64 0, .slice none 0 0]]) (by simp [results, Try.results23, go_sem]) rfl (DoPost.ok (x := 0) (by simp) (by decide) rfl (by repeat (first | exact Ext.refl _ | refine Ext.drew ?_ | refine Ext.drewN ?_ _ | refine Ext.alloc ?_ _)))
  · have hT : takeR bs at_ er n = ([], at_, er) := by unfold takeR; rw [if_pos he]
    rw [hT]
    have he2 : (er != 0) = true := by simpa using he
    go_enter Try.func23, Try.ntmps23
    go_wp2
    exact bodyPost_ret (v := .tuple #[.agg #[.slice a bs.length cap, .int .i64 at_, .int .i64 er], .agg #[.int .i64 0, .slice none 0 0]]) (by simp [results, Try.results23, go_sem]) rfl (DoPost.refused he rfl (((((Ext.refl w).alloc _).alloc _).alloc _).alloc _))

/-- Do, whatever it is asked. -/
theorem do_any (a : Option Addr) (cap : Nat) (bs : List Int) (at_ : Nat) (er kd n : Int) (w : World) (h : Ints .u8 w (.slice a bs.length cap) bs) (hat : at_ ≤ bs.length) (hn : (Lit.int .i64 n).wf = true) (hk0 : 0 ≤ kd) (hk7 : kd ≤ 7) :
    Calls Try.prog 23 #[.agg #[.slice a bs.length cap, .int .i64 at_, .int .i64 er], .agg #[.int .i64 kd, .int .i64 n]] w (DoPost a cap bs kd er (takeR bs at_ er (askN kd n)) w) := by
  have : kd = 0 ∨ kd = 1 ∨ kd = 2 ∨ kd = 3 ∨ kd = 4 ∨ kd = 5 ∨ kd = 6 ∨ kd = 7 := by omega
  rcases this with rfl | rfl | rfl | rfl | rfl | rfl | rfl | rfl
  · exact do_0 a cap bs at_ er n w h hat hn
  · exact do_1 a cap bs at_ er n w h hat hn
  · exact do_2 a cap bs at_ er n w h hat hn
  · exact do_3 a cap bs at_ er n w h hat hn
  · exact do_4 a cap bs at_ er n w h hat hn
  · exact do_5 a cap bs at_ er n w h hat hn
  · exact do_6 a cap bs at_ er n w h hat hn
  · exact do_7 a cap bs at_ er n w h hat hn

end Go.Proofs.Ytooieiehmffgdaa
