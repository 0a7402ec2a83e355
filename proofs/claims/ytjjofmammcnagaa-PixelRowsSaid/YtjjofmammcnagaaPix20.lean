/- PixelRows at whatever arguments. Conditions: each theorem's own premises. -/
import Derived.Test.YtjjofmammcnagaaPix19
namespace Go.Proofs.Ytjjofmammcnagaa
open Go.RowKit
set_option linter.unusedVariables false

theorem vecs_of {P : Program} {w : World} : ∀ (css : List (List Value)), (∀ cs ∈ css, Fits (CellIs P w) [.int .i32, .int .i32, .int .i32, .int .i32] cs) → ∃ L : List (List Int), L.length = css.length ∧ vecsC L = css.flatten ∧ ∀ c ∈ L, VecOk c := by
  intro css
  induction css with
  | nil => intro _; exact ⟨[], rfl, rfl, by simp⟩
  | cons cs css ih =>
    intro h
    obtain ⟨L, e1, e2, e3⟩ := ih fun c hc => h c (by simp [hc])
    obtain ⟨u, us, rfl, ⟨a, rfl, ha⟩, k2⟩ := (h cs (by simp)).cons_inv
    obtain ⟨u, us, rfl, ⟨b, rfl, hb⟩, k3⟩ := k2.cons_inv
    obtain ⟨u, us, rfl, ⟨c, rfl, hc⟩, k4⟩ := k3.cons_inv
    obtain ⟨u, us, rfl, ⟨d, rfl, hd⟩, k5⟩ := k4.cons_inv
    have := k5.nil_inv
    subst this
    refine ⟨[a, b, c, d] :: L, by simp [e1], by unfold vecsC at *; rw [List.flatMap_cons, e2]; rfl, ?_⟩
    intro x hx
    rcases List.mem_cons.1 hx with rfl | hx
    · refine ⟨rfl, fun y hy => ?_⟩
      simp only [List.mem_cons, List.not_mem_nil, or_false] at hy
      rcases hy with rfl | rfl | rfl | rfl
      · exact i32_of_wf ha
      · exact i32_of_wf hb
      · exact i32_of_wf hc
      · exact i32_of_wf hd
    · exact e3 x hx

set_option maxHeartbeats 1000000 in
theorem rows_big (n : Int) (a a2 : Option Addr) (cap cap2 N M : Nat) (w : World) (h : 5000 < N ∨ 2000 < M) : Calls Try.prog 7 #[.int .i64 n, .slice a N cap, .slice a2 M cap2] w fun e w' => e = .returned (.bool true) ∧ Ext w w' := by
  by_cases h1 : 5000 < N
  · have hb' : (5000 : Int) < (N : Int) := by omega
    clear h
    go_enter Try.func7, Try.ntmps7
    go_wp2_with (go_at_call 9; refine (wakes_any _).mono ?_; rintro e w1 ⟨rfl, hx1⟩)
    go_ret
    exact ⟨rfl, hx1⟩
  · have hb' : ¬ (5000 : Int) < (N : Int) := by omega
    have hb2 : (2000 : Int) < (M : Int) := by omega
    clear h
    go_enter Try.func7, Try.ntmps7
    go_wp2_with (go_at_call 9; refine (wakes_any _).mono ?_; rintro e w1 ⟨rfl, hx1⟩)
    go_ret
    exact ⟨rfl, hx1⟩

theorem rows_arg (W : World) (v0 v1 v2 : Value) (h0 : ArgIs Try.prog W 3 v0) (h1 : ArgIs Try.prog W 22 v1) (h2 : ArgIs Try.prog W 48 v2) : Calls Try.prog 7 #[v0, v1, v2] W fun e w' => e = .returned (.bool true) ∧ Ext W w' := by
  obtain ⟨n, rfl, _⟩ := h0.int Try.underlying3
  obtain ⟨zs, hi, hb⟩ := h1.ints Try.underlying22 Try.underlying5 cells_u8 bytes_u8
  obtain ⟨css, k1, k2⟩ := h2.elems 5 (ls := [.int .i32, .int .i32, .int .i32, .int .i32]) Try.underlying48 (by kernel_rfl) (by kernel_rfl) (by decide)
  obtain ⟨L, e1, e2, hv⟩ := vecs_of css k2
  have hk : SlC W v2 4 L.length (vecsC L) := by rw [e1, e2]; exact k1
  obtain ⟨a, cap, rfl⟩ : ∃ a cap, v1 = .slice a zs.length cap := by obtain ⟨⟨_, a, cap, rfl, _⟩, _⟩ := hi; exact ⟨a, cap, rfl⟩
  obtain ⟨a2, cap2, rfl⟩ : ∃ a cap, v2 = .slice a L.length cap := by obtain ⟨_, a, cap, rfl, _⟩ := hk; exact ⟨a, cap, rfl⟩
  by_cases hbig : 5000 < zs.length ∨ 2000 < L.length
  · exact rows_big n a a2 cap cap2 _ _ W hbig
  · by_cases hbad : n < 1 ∨ 8 ≤ n
    · exact rows_bad n a a2 cap cap2 zs L W hi hk (by omega) (by omega) hbad
    · obtain ⟨k, rfl⟩ := Int.eq_ofNat_of_zero_le (show 0 ≤ n by omega)
      by_cases hl : zs.length % szN k = 0
      · exact rows_ok k (zs.length / szN k) a a2 cap cap2 zs L W hi hk hv (by omega) (by omega) (by omega) (by omega) (by have := Nat.div_add_mod zs.length (szN k); rw [hl, Nat.add_zero, Nat.mul_comm] at this; exact this.symm)
      · exact rows_short k a a2 cap cap2 zs L W hi hk hv (by omega) (by omega) (by omega) (by omega) hl
end Go.Proofs.Ytjjofmammcnagaa
