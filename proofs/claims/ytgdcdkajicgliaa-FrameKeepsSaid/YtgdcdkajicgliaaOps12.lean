/- Contracts of ops' factors and the document's factor. Conditions: each theorem's own premises. -/
import Derived.Test.YtgdcdkajicgliaaOps11
import Derived.BigQuiet
import Derived.Deep.QuietTactic
namespace Go.Proofs.Ytgdcdkajicgliaa
open Go.RowKit
set_option linter.unusedVariables false
set_option maxRecDepth 100000
set_option linter.unusedSimpArgs false

def vget (v : V4) (ch : Nat) : Int := v.L.getD ch 0
theorem VAt.at {w : World} {b : Nat} {v : V4} (h : VAt w b v) (ch : Nat) (hc : ch < 4) : w.cell? ⟨b, ch, none⟩ = some (.int .i32 (vget v ch)) := by
  have : ch = 0 ∨ ch = 1 ∨ ch = 2 ∨ ch = 3 := by omega
  rcases this with rfl | rfl | rfl | rfl <;> exact cell_of_heap h rfl
def plainV (f : Int) (ch : Nat) (s d k : V4) : Int :=
  if f = 2 then 65536 else if f = 3 then vget s ch else if f = 5 then vget d ch else if f = 7 then s.d else if f = 9 then d.d else if f = 11 then vget k ch else if f = 13 then k.d else 0
/-- A factor. -/
def factorV (f : Int) (ch : Nat) (s d k : V4) : Int :=
  if f = 15 then (if ch = 3 then 65536 else min s.d (subV 65536 d.d)) else if 4 ≤ f ∧ f % 2 = 0 then subV 65536 (plainV (f - 1) ch s d k) else plainV f ch s d k
def fnP (ps pd pk : Nat) : Value := .func (.func 131) #[] #[.pointer (some ⟨ps, 0, none⟩), .pointer (some ⟨pd, 0, none⟩), .pointer (some ⟨pk, 0, none⟩)]
theorem f_cases {f : Int} (h0 : 1 ≤ f) (h1 : f ≤ 15) : f = 1 ∨ f = 2 ∨ f = 3 ∨ f = 4 ∨ f = 5 ∨ f = 6 ∨ f = 7 ∨ f = 8 ∨ f = 9 ∨ f = 10 ∨ f = 11 ∨ f = 12 ∨ f = 13 ∨ f = 14 ∨ f = 15 := by omega
set_option maxHeartbeats 4000000 in
set_option maxRecDepth 20000 in
theorem plain_any (f : Int) (ch : Nat) (hc : ch < 4) (h0 : 1 ≤ f) (h1 : f ≤ 15) (s d k : V4) (ps pd pk : Nat) (w : World) (hs : VAt w ps s) (hd : VAt w pd d) (hk : VAt w pk k) :
    Calls Try.prog 131 #[.int .i64 f, .int .i64 (ch : Int), .pointer (some ⟨ps, 0, none⟩), .pointer (some ⟨pd, 0, none⟩), .pointer (some ⟨pk, 0, none⟩)] w fun e w' => e = .returned (.int .i32 (plainV f ch s d k)) ∧ w = w' := by
  have s0 := hs.at ch hc
  have d0 := hd.at ch hc
  have k0 := hk.at ch hc
  have s3 := hs.cell.2.2.2
  have d3 := hd.cell.2.2.2
  have k3 := hk.cell.2.2.2
  have ls := heap_lt hs
  have ld := heap_lt hd
  have lk := heap_lt hk
  have hc4 : (ch : Int) < 4 := by omega
  clear hs hd hk
  have hcs := f_cases h0 h1
  clear h0 h1
  rcases hcs with rfl | rfl | rfl | rfl | rfl | rfl | rfl | rfl | rfl | rfl | rfl | rfl | rfl | rfl | rfl
  all_goals go_enter Try.func131, Try.ntmps131
  all_goals go_wp2
  all_goals go_ret
  all_goals exact ⟨rfl, rfl⟩

def fnF (ps pd pf : Nat) : Value := .func (.func 132) #[] #[.pointer (some ⟨ps, 0, none⟩), .pointer (some ⟨pd, 0, none⟩), .pointer (some ⟨pf, 0, none⟩)]
theorem quiet_same {f : FuncId} {args : Array Value} {w : World} {n : Nat} {v : Value}
    (h : Calls Try.prog f args (w.drewN n) fun e w' => e = .returned v ∧ w.drewN n = w') : Calls Try.prog f args (w.drewN n) fun e w'' => e = .returned v ∧ ∃ m, w'' = w.drewN m :=
  h.mono fun _ _ ⟨he, hm⟩ => ⟨he, n, hm.symm⟩


set_option maxHeartbeats 4000000 in
set_option maxRecDepth 20000 in
theorem factor_any (f : Int) (ch : Nat) (hc : ch < 4) (h0 : 1 ≤ f) (h1 : f ≤ 15) (s d k : V4) (ps pd pk pf : Nat) (w : World) (hs : VAt w ps s) (hd : VAt w pd d) (hk : VAt w pk k) (hf : w.heap[pf]? = some (.cells #[fnP ps pd pk] 193 (0, 0))) :
    Calls Try.prog 132 #[.int .i64 f, .int .i64 (ch : Int), .pointer (some ⟨ps, 0, none⟩), .pointer (some ⟨pd, 0, none⟩), .pointer (some ⟨pf, 0, none⟩)] w fun e w' => e = .returned (.int .i32 (factorV f ch s d k)) ∧ ∃ n, w' = w.drewN n := by
  have HP := Lib.hid (fun (g : Int) (g0 : 1 ≤ g) (g1 : g ≤ 15) => plain_any g ch hc g0 g1 s d k ps pd pk w hs hd hk)
  have s3 := hs.cell.2.2.2
  have d3 := hd.cell.2.2.2
  have ls := heap_lt hs
  have ld := heap_lt hd
  have lf := heap_lt hf
  have f0 : w.cell? ⟨pf, 0, none⟩ = some (fnP ps pd pk) := cell_of_heap hf rfl
  simp only [fnP] at f0
  have hc4 : (ch : Int) < 4 := by omega
  clear hs hd hk hf
  have hcs := f_cases h0 h1
  clear h0 h1
  rcases hcs with rfl | rfl | rfl | rfl | rfl | rfl | rfl | rfl | rfl | rfl | rfl | rfl | rfl | rfl | rfl
  · go_enter Try.func132, Try.ntmps132
    go_wp2_with (go_at_call 131; refine (HP.out 1 (by decide) (by decide)).mono ?_; rintro _ _ ⟨rfl, rfl⟩)
    all_goals go_ret
    exact ⟨rfl, 0, rfl⟩
  · go_enter Try.func132, Try.ntmps132
    go_wp2_with (go_at_call 131; refine (HP.out 2 (by decide) (by decide)).mono ?_; rintro _ _ ⟨rfl, rfl⟩)
    all_goals go_ret
    exact ⟨rfl, 0, rfl⟩
  · go_enter Try.func132, Try.ntmps132
    go_wp2_with (go_at_call 131; refine (HP.out 3 (by decide) (by decide)).mono ?_; rintro _ _ ⟨rfl, rfl⟩)
    all_goals go_ret
    exact ⟨rfl, 0, rfl⟩
  · go_enter Try.func132, Try.ntmps132
    go_wp2_with (first
      | (go_at_call 131; refine (HP.out 3 (by decide) (by decide)).mono ?_; rintro _ _ ⟨rfl, rfl⟩)
      | (go_at_call 123; refine (subfix_any _ _ _).mono ?_; rintro _ _ ⟨rfl, rfl⟩))
    all_goals go_ret
    exact ⟨rfl, 0, rfl⟩
  · go_enter Try.func132, Try.ntmps132
    go_wp2_with (go_at_call 131; refine (HP.out 5 (by decide) (by decide)).mono ?_; rintro _ _ ⟨rfl, rfl⟩)
    all_goals go_ret
    exact ⟨rfl, 0, rfl⟩
  · go_enter Try.func132, Try.ntmps132
    go_wp2_with (first
      | (go_at_call 131; refine (HP.out 5 (by decide) (by decide)).mono ?_; rintro _ _ ⟨rfl, rfl⟩)
      | (go_at_call 123; refine (subfix_any _ _ _).mono ?_; rintro _ _ ⟨rfl, rfl⟩))
    all_goals go_ret
    exact ⟨rfl, 0, rfl⟩
  · go_enter Try.func132, Try.ntmps132
    go_wp2_with (go_at_call 131; refine (HP.out 7 (by decide) (by decide)).mono ?_; rintro _ _ ⟨rfl, rfl⟩)
    all_goals go_ret
    exact ⟨rfl, 0, rfl⟩
  · go_enter Try.func132, Try.ntmps132
    go_wp2_with (first
      | (go_at_call 131; refine (HP.out 7 (by decide) (by decide)).mono ?_; rintro _ _ ⟨rfl, rfl⟩)
      | (go_at_call 123; refine (subfix_any _ _ _).mono ?_; rintro _ _ ⟨rfl, rfl⟩))
    all_goals go_ret
    exact ⟨rfl, 0, rfl⟩
  · go_enter Try.func132, Try.ntmps132
    go_wp2_with (go_at_call 131; refine (HP.out 9 (by decide) (by decide)).mono ?_; rintro _ _ ⟨rfl, rfl⟩)
    all_goals go_ret
    exact ⟨rfl, 0, rfl⟩
  · go_enter Try.func132, Try.ntmps132
    go_wp2_with (first
      | (go_at_call 131; refine (HP.out 9 (by decide) (by decide)).mono ?_; rintro _ _ ⟨rfl, rfl⟩)
      | (go_at_call 123; refine (subfix_any _ _ _).mono ?_; rintro _ _ ⟨rfl, rfl⟩))
    all_goals go_ret
    exact ⟨rfl, 0, rfl⟩
  · go_enter Try.func132, Try.ntmps132
    go_wp2_with (go_at_call 131; refine (HP.out 11 (by decide) (by decide)).mono ?_; rintro _ _ ⟨rfl, rfl⟩)
    all_goals go_ret
    exact ⟨rfl, 0, rfl⟩
  · go_enter Try.func132, Try.ntmps132
    go_wp2_with (first
      | (go_at_call 131; refine (HP.out 11 (by decide) (by decide)).mono ?_; rintro _ _ ⟨rfl, rfl⟩)
      | (go_at_call 123; refine (subfix_any _ _ _).mono ?_; rintro _ _ ⟨rfl, rfl⟩))
    all_goals go_ret
    exact ⟨rfl, 0, rfl⟩
  · go_enter Try.func132, Try.ntmps132
    go_wp2_with (go_at_call 131; refine (HP.out 13 (by decide) (by decide)).mono ?_; rintro _ _ ⟨rfl, rfl⟩)
    all_goals go_ret
    exact ⟨rfl, 0, rfl⟩
  · go_enter Try.func132, Try.ntmps132
    go_wp2_with (first
      | (go_at_call 131; refine (HP.out 13 (by decide) (by decide)).mono ?_; rintro _ _ ⟨rfl, rfl⟩)
      | (go_at_call 123; refine (subfix_any _ _ _).mono ?_; rintro _ _ ⟨rfl, rfl⟩))
    all_goals go_ret
    exact ⟨rfl, 0, rfl⟩
  · have HC3 : Hid (factorV 15 ch s d k = if ch = 3 then 65536 else min s.d (subV 65536 d.d)) := Lib.hid rfl
    by_cases hc3 : ch = 3
    · subst hc3
      go_enter Try.func132, Try.ntmps132
      go_wp2
      all_goals go_ret
      exact ⟨rfl, 0, rfl⟩
    · have hn3 : ((ch : Int) == 3) = false := by simp; omega
      rw [HC3.out, if_neg hc3]
      clear HC3
      go_enter Try.func132, Try.ntmps132
      go_upto_region 4 with fail
      go_quiet (first | (go_at_call 123; refine quiet_same (subfix_any _ _ _)) | (go_at_call 133; refine quiet_same (minfix_any _ _ _)))
      go_wp2
      go_ret
      exact ⟨rfl, _, rfl⟩

end Go.Proofs.Ytgdcdkajicgliaa
