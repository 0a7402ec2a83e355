/- Contract of fetch.Vertex. Conditions: each theorem's own premises. -/
import Derived.Test.YtgbcngmciabpkaaFet7
namespace Go.Proofs.Ytgbcngmciabpkaa
open Go.RowKit Go.ChangeShapes
set_option linter.unusedVariables false

theorem Ld_Ar (v : Value) : Instr.loadAt 24 v = @Classical.epsilon _ neF (LdF 24 v) := LdF_eq _ _
theorem AAt.load {w : World} {b : Nat} {a : Arr} (h : AAt w b a) : (@Classical.epsilon _ neF (LdF 24 (.pointer (some ⟨b, 0, none⟩)))).run Try.prog w = .ok (.agg a.C.toArray) w :=
  ldF_whole _ h Try.underlying24 rfl (by kernel_rfl)
def fvOk (a : Arr) (i : Int) : Bool := arrOk a && (decide (0 ≤ i) && decide (i ≤ 65535))
def fvV (bs : List Int) (a : Arr) (i : Int) : List Int := if fvOk a i then vxV bs a i else vZ
def fvE (bs : List Int) (a : Arr) (i : Int) : Int := if fvOk a i then vxE bs a i else 2
theorem vxV_len (bs : List Int) (a : Arr) (i : Int) : (vxV bs a i).length = 4 := by unfold vxV; split; exact vxL_len _ _ _ _; rfl
theorem fvV_len (bs : List Int) (a : Arr) (i : Int) : (fvV bs a i).length = 4 := by unfold fvV; split; exact vxV_len _ _ _; rfl
attribute [local go_sem ↓] Ld_Vc St_Vc Ld_Ar
set_option maxHeartbeats 2000000 in
set_option maxRecDepth 100000 in
theorem fvertex_any (v : Value) (bs : List Int) (a : Arr) (i : Int) (w : World) (h : Ints .u8 w v bs) (hb : bs.length ≤ 100000) :
    Calls Try.prog 12 #[v, .agg a.C.toArray, .int .i64 i] w fun e w' => e = .returned (.tuple #[.agg (vC (fvV bs a i)).toArray, .int .i64 (fvE bs a i)]) ∧ Ext w w' := by
  obtain ⟨w4, hw2, haa, hvv, hx⟩ : ∃ w2, (w.alloc (.cells a.C.toArray 24)).alloc (.cells #[.int .i32 0, .int .i32 0, .int .i32 0, .int .i32 0] 29) = w2 ∧ AAt w2 w.heap.size a ∧ VcAt w2 (w.heap.size + 1) vZ ∧ Ext w w2 :=
    ⟨_, rfl, (heap_pair _ _ _).1, (heap_pair _ _ _).2, ((Ext.refl _).alloc _).alloc _⟩
  have HW := Lib.hid hw2
  have HIN4 := Lib.hid (h.ext hx)
  have HA4 := Lib.hid haa
  have HV4 := Lib.hid hvv
  have HXX := Lib.hid hx
  clear hw2 haa hvv hx h
  have hl := HA4.out.load
  obtain ⟨V, hV⟩ : ∃ V, fvV bs a i = V := ⟨_, rfl⟩
  obtain ⟨E, hE⟩ : ∃ E, fvE bs a i = E := ⟨_, rfl⟩
  rw [hV, hE]
  have HVL := Lib.hid (show V.length = 4 by rw [← hV]; exact fvV_len _ _ _)
  have HV := Lib.hid hV
  have HE := Lib.hid hE
  clear hV hE
  obtain ⟨q, hq⟩ : ∃ q, (decide (0 ≤ i) && decide (i ≤ 65535)) = q := ⟨_, rfl⟩
  have HQ := Lib.hid hq
  clear hq
  have n0 := heap_lt HA4.out
  have n1 := heap_lt HV4.out
  go_enter Try.func12, Try.ntmps12
  go_upto_region 1 with fail
  rw [HW.out]
  generalize hb0 : w.heap.size = b0 at *
  have HB0 := Lib.hid hb0
  clear hb0 HW
  cases ho : arrOk a
  · have HO := Lib.hid ho
    have HCK := Lib.hid (fun w => by have := check_any a w; rw [ho] at this; exact this)
    have HZ := Lib.hid (show V = vZ ∧ E = 2 by rw [← HV.out, ← HE.out]; unfold fvV fvE fvOk; rw [ho]; exact ⟨rfl, rfl⟩)
    clear ho
    go_upto_region 2 with (go_at_call 24; refine (HCK.out _).mono ?_; rintro _ w5 ⟨rfl, hx5⟩)
    clear hl
    obtain ⟨w6, hst, h6, hc6⟩ := (HV4.out.ext hx5).put rfl vZ rfl
    have hst : (@Classical.epsilon _ neG (StF 29 (.pointer (some ⟨b0 + 1, 0, none⟩)) (.agg #[.int .i32 0, .int .i32 0, .int .i32 0, .int .i32 0]))).run Try.prog w5 = .ok () w6 := hst
    have H6 := Lib.hid h6
    have HX6 := Lib.hid ((HXX.out.trans hx5).chgTrans hc6 (by simp; rw [HB0.out]; omega))
    have n2 := hx5.size
    clear h6 hc6 hx5
    go_wp2_with fail
    refine bodyPost_ret (results_cellT rfl _ _ ⟨b0 + 1, 0, none⟩ _ rfl (H6.out.ret rfl) _ rfl) rfl ?_
    exact ⟨by rw [HZ.out.1, HZ.out.2]; rfl, HX6.out⟩
  · have HO := Lib.hid ho
    have HCK := Lib.hid (fun w => by have := check_any a w; rw [ho] at this; exact this)
    clear ho
    cases q
    · have HZ := Lib.hid (show V = vZ ∧ E = 2 by rw [← HV.out, ← HE.out]; unfold fvV fvE fvOk; rw [HO.out, HQ.out]; exact ⟨rfl, rfl⟩)
      go_upto_region 2 with (first | (go_at_call 24; refine (HCK.out _).mono ?_; rintro _ w5 ⟨rfl, hx5⟩) | (go_at_call 26; refine (between_any _ _ _ _).mono ?_; rw [HQ.out]; rintro _ _ ⟨rfl, rfl⟩))
      clear hl
      obtain ⟨w6, hst, h6, hc6⟩ := (HV4.out.ext hx5).put rfl vZ rfl
      have hst : (@Classical.epsilon _ neG (StF 29 (.pointer (some ⟨b0 + 1, 0, none⟩)) (.agg #[.int .i32 0, .int .i32 0, .int .i32 0, .int .i32 0]))).run Try.prog w5 = .ok () w6 := hst
      have H6 := Lib.hid h6
      have HX6 := Lib.hid ((HXX.out.trans hx5).chgTrans hc6 (by simp; rw [HB0.out]; omega))
      have n2 := hx5.size
      clear h6 hc6 hx5
      go_wp2_with fail
      refine bodyPost_ret (results_cellT rfl _ _ ⟨b0 + 1, 0, none⟩ _ rfl (H6.out.ret rfl) _ rfl) rfl ?_
      exact ⟨by rw [HZ.out.1, HZ.out.2]; rfl, HX6.out⟩
    · have HZ := Lib.hid (show V = vxV bs a i ∧ E = vxE bs a i by rw [← HV.out, ← HE.out]; unfold fvV fvE fvOk; rw [HO.out, HQ.out]; exact ⟨rfl, rfl⟩)
      have hqq := HQ.out
      simp only [Bool.and_eq_true, decide_eq_true_eq] at hqq
      have HQ1 := Lib.hid hqq
      clear hqq
      go_upto_region 3 with (first | (go_at_call 24; refine (HCK.out _).mono ?_; rintro _ w5 ⟨rfl, hx5⟩) | (go_at_call 26; refine (between_any _ _ _ _).mono ?_; rw [HQ.out]; rintro _ _ ⟨rfl, rfl⟩))
      clear hl
      have hl := (HA4.out.ext hx5).load
      have n2 := hx5.size
      have HVX := Lib.hid (fun w (h : Ints .u8 w v bs) => by have := vertex_any v bs a i w h hb HO.out HQ1.out.1 (by have := HQ1.out.2; omega); rw [← HZ.out.1, ← HZ.out.2] at this; exact this)
      have HX5 := Lib.hid hx5
      clear hx5
      go_wp2_with (go_at_call 27; refine (HVX.out _ (HIN4.out.ext HX5.out)).mono ?_; rintro _ w6 ⟨rfl, hx6⟩; obtain ⟨w7, hst, h7, hc7⟩ := ((HV4.out.ext HX5.out).ext hx6).put rfl V HVL.out; have H7 := Lib.hid h7; have HX7 := Lib.hid (((HXX.out.trans HX5.out).trans hx6).chgTrans hc7 (by simp; rw [HB0.out]; omega)); have n3 := hx6.size; clear h7 hc7 hx6)
      refine bodyPost_ret (results_cellT rfl _ _ ⟨b0 + 1, 0, none⟩ _ rfl (H7.out.ret HVL.out) _ rfl) rfl ?_
      exact ⟨rfl, HX7.out⟩
end Go.Proofs.Ytgbcngmciabpkaa
