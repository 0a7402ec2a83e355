/- Pixel's Pack where it refuses; the laws' wakes; PixelBits and PixelRises. Conditions: each theorem's own premises. -/
import Derived.Test.YtjjofmammcnagaaPix9
namespace Go.Proofs.Ytjjofmammcnagaa
open Go.RowKit
set_option linter.unusedVariables false

set_option maxHeartbeats 1000000 in
theorem pack_bad (n : Int) (c : List Int) (w : World) (hn : n < 1 ∨ 8 ≤ n) : Calls Try.prog 13 #[.int .i64 n, .agg (vecC c)] w fun e w' => e = .returned (.tuple #[.slice none 0 0, .int .i64 2]) ∧ Ext w w' := by
  have hzf := zero_format
  have hfi := Lib.hid (fun w => find_bad n w hn)
  clear hn
  generalize vecC c = C at *
  go_enter Try.func13, Try.ntmps13
  go_wp2_with (go_at_call 24; refine (hfi.out _).mono ?_; rintro e w1 ⟨rfl, hx⟩)
  go_ret2
  exact ⟨rfl, ((Ext.refl w).alloc _).trans (hx.alloc _)⟩

/-- What '==' says of two colours. -/
theorem eq_vec (a0 a1 a2 a3 b0 b1 b2 b3 : Int) (w : World) : (Op.equalIn 10000 26 (.agg #[.int .i32 a0, .int .i32 a1, .int .i32 a2, .int .i32 a3]) (.agg #[.int .i32 b0, .int .i32 b1, .int .i32 b2, .int .i32 b3])).run Try.prog w = .ok (a0 == b0 && (a1 == b1 && (a2 == b2 && a3 == b3))) w := by
  have u3 := Try.underlying24
  have a3' := Try.isAgg24
  have z3 := Try.sizeOf24
  rw [show (10000 : Nat) = 9999 + 1 from rfl, Op.equalIn]
  simp only [Sem.run_bind, run_underlying Try.underlying26, Result.andThen_ok]
  simp only [Std.Legacy.Range.forIn_eq_forIn_range', Std.Legacy.Range.size, Nat.sub_zero, Nat.add_sub_cancel, Nat.div_one, List.range'_succ, List.range'_zero, List.forIn_cons, List.forIn_nil]
  go_simp
  by_cases h1 : a0 = b0 <;> by_cases h2 : a1 = b1 <;> by_cases h3 : a2 = b2 <;> by_cases h4 : a3 = b3 <;> simp [h1, h2, h3, h4]
attribute [local go_sem] eq_vec

theorem wake_bytes : lowB (packX 2 [65536, 0, 0, 0]) (szN 2) = [0, 248] := by decide +kernel
theorem wake_col : vecC (unpV 5 (leN [255])) = #[.int .i32 65536, .int .i32 65536, .int .i32 65536, .int .i32 65536] := by
  have : unpV 5 (leN [255]) = [65536, 65536, 65536, 65536] := by decide +kernel
  rw [this]
  rfl
set_option maxHeartbeats 1000000 in
theorem wakes_any (w : World) : Calls Try.prog 9 #[] w fun e w' => e = .returned (.bool true) ∧ Ext w w' := by
  have hpk : Hid (∀ w, Calls Try.prog 13 #[.int .i64 2, .agg #[.int .i32 65536, .int .i32 0, .int .i32 0, .int .i32 0]] w fun e w' => ∃ a cap, e = .returned (.tuple #[.slice a 2 cap, .int .i64 0]) ∧ Ints .u8 w' (.slice a 2 cap) [0, 248] ∧ Ext w w') := fun w => by
    have := pack_any 2 [65536, 0, 0, 0] w (by decide) (by decide) rfl (by decide)
    rw [wake_bytes] at this
    exact this
  have hun : Hid (∀ (a : Option Addr) (w : World), Ints .u8 w (.slice a 1 1) [255] → Calls Try.prog 10 #[.int .i64 5, .slice a 1 1] w fun e w' => e = .returned (.tuple #[.agg #[.int .i32 65536, .int .i32 65536, .int .i32 65536, .int .i32 65536], .int .i64 0]) ∧ Ext w w') := fun a w h => by
    have := unpack_any 5 _ [255] w (by decide) (by decide) h rfl
    rw [wake_col] at this
    exact this
  go_enter Try.func9, Try.ntmps9
  go_wp2_with (first | (go_at_call 13; refine (hpk.out _).mono ?_; rintro e w1 ⟨a, cap, rfl, hi, hx1⟩; have hi2 : Ints .u8 (w1.alloc (.cells #[.int .u8 255] 5)) (.slice (some ⟨w1.heap.size, 0, none⟩) 1 1) [255] := ⟨SlC.new _ _ 1 1 rfl (by decide), by decide⟩) | (go_at_call 10; refine (hun.out _ _ hi2).mono ?_; rintro e w2 ⟨rfl, hx2⟩; have hi3 := hi.ext (((Ext.refl w1).alloc _).trans hx2); obtain ⟨b, off, rfl, hb, hcell⟩ := hi3.pos (by decide); have hc1 : w2.cell? ⟨b, off + 1, none⟩ = some (.int .u8 248) := hcell 1 (by decide)))
  go_ret
  exact ⟨rfl, hx1.trans ((((Ext.refl w1).alloc _).trans hx2).alloc _)⟩
end Go.Proofs.Ytjjofmammcnagaa
