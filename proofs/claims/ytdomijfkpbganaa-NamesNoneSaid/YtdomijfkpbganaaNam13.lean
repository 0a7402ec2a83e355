/- What names' All tells. Conditions: each theorem's own premises. -/
import Derived.Test.YtdomijfkpbganaaNam11
import Derived.Test.YtdomijfkpbganaaRng
import Derived.Test.YtdomijfkpbganaaFold
namespace Go.Proofs.Ytdomijfkpbganaa
open Go.RowKit
set_option linter.unusedVariables false
attribute [local go_sem] Oper.semAt_some

/-- The objects among the first m. -/
def objs (st : List Int) (m : Nat) : List Nat := (List.range m).filter (fun i => st.getD i 0 == 2)
theorem objs_yes (st : List Int) (m : Nat) (h : (st.getD m 0 == 2) = true) : objs st (m + 1) = objs st m ++ [m] := by
  unfold objs; rw [List.range_succ, List.filter_append, List.filter_cons, h]; simp
theorem objs_no (st : List Int) (m : Nat) (h : (st.getD m 0 == 2) = false) : objs st (m + 1) = objs st m := by
  unfold objs; rw [List.range_succ, List.filter_append, List.filter_cons, h]; simp
theorem objs_pre (st : List Int) (m n : Nat) (h : m ≤ n) : ∃ r, objs st n = objs st m ++ r := by
  induction n with
  | zero =>
    obtain rfl : m = 0 := by omega
    exact ⟨[], (List.append_nil _).symm⟩
  | succ n ih =>
    rcases Nat.lt_or_ge n m with hn | hn
    · obtain rfl : m = n + 1 := by omega
      exact ⟨[], (List.append_nil _).symm⟩
    · obtain ⟨r, hr⟩ := ih hn
      cases hq : st.getD n 0 == 2
      · exact ⟨r, by rw [objs_no st n hq, hr]⟩
      · exact ⟨r ++ [n], by rw [objs_yes st n hq, hr, List.append_assoc]⟩
theorem objs_at (st : List Int) (m n : Nat) (hm : m < n) (h : (st.getD m 0 == 2) = true) : (objs st m).length < (objs st n).length ∧ (objs st n).getD (objs st m).length 0 = m := by
  obtain ⟨r, hr⟩ := objs_pre st (m + 1) n hm
  rw [hr, objs_yes st m h]
  constructor
  · simp
  · rw [List.getD_eq_getElem?_getD, List.append_assoc, List.getElem?_append_right (Nat.le_refl _), Nat.sub_self]
    rfl

theorem LdA_eq (v : Value) : Instr.loadAt 51 v = @Classical.epsilon _ neF (LdF 51 v) := LdF_eq _ _
theorem IxA_eq (v i : Value) : Instr.index 51 v i = @Classical.epsilon _ neF (IxF 51 v i) := IxF_eq _ _ _
theorem NmAt.loadA {w : World} {p : Nat} {st : List Int} {bd : Int} (h : NmAt w p st bd) : (@Classical.epsilon _ neF (LdF 51 (.pointer (some ⟨p, 0, none⟩)))).run Try.prog w = .ok (.agg (st.map (Value.int .u8)).toArray) w :=
  ldF_ok _ (rangeF (L := st.map (Value.int .u8) ++ [Value.int .i64 bd]) h.1 fun j v hv => by
    have hj := (List.getElem?_eq_some_iff.1 hv).1
    rw [Nat.zero_add, List.getElem?_append_left hj]
    exact hv) Try.underlying51 rfl (by rw [List.length_map, h.2]; rfl)
theorem ixA_ok (st : List Int) (hl : st.length = 65) (m : Nat) (hm : m < 65) (w : World) : (@Classical.epsilon _ neF (IxF 51 (.agg (st.map (Value.int .u8)).toArray) (.int .i64 m))).run Try.prog w = .ok (.int .u8 (st.getD m 0)) w :=
  ixF_one Try.underlying51 Try.underlying5 rfl rfl _ m hm _ _ (by simp [List.getD_eq_getElem?_getD, List.getElem?_eq_getElem (show m < st.length by omega)]) w
attribute [local go_sem ↓] LdA_eq IxA_eq

set_option maxHeartbeats 2000000 in
theorem all_tells (cb : Nat) (st : List Int) (bd : Int) (w : World) (h : NmAt w cb st bd) (n₀ : Nat) :
    Tells Try.prog 28 #[.pointer (some ⟨cb, 0, none⟩)] (objs st 65).length n₀ (fun k args _ => args = #[.int .i64 ((objs st 65).getD k 0 : Nat)]) w := by
  intro l J Jx W hW hJ hJx hY h0
  have hc : NmAt W cb st bd := ⟨(hW.block cb h.lt).trans h.1, h.2⟩
  have hld := hc.loadA
  have hcl := hc.lt
  have HL := Lib.hid h.2
  refine callsIn_of_wp Try.func28 rfl trivial ?_ rfl
  simp only [Try.ntmps28, List.size_toArray, List.length_cons, List.length_nil, Nat.reduceAdd, Nat.reduceSub, Array.replicate_succ, Array.replicate_zero, List.push_toArray, List.append_toArray, List.nil_append, List.cons_append]
  gi_wp2
  gi_loopw [7] (fun i wr => ∃ m : Nat, m ≤ 65 ∧ i = .int .i64 m ∧ J (objs st m).length wr) (fun i _ => 65 - (intOf i).toNat)
  case atStart => exact ⟨0, by omega, rfl, h0⟩
  case round =>
    obtain ⟨m, hm, rfl, hj⟩ := hrel
    by_cases hlt : m < 65
    · have hix := ixA_ok st HL.out m hlt wr
      cases hq : st.getD m 0 == 2
      · have HQ := Lib.hid hq
        have hq' : (st.getD m 0 == 2) = false := hq
        generalize st.getD m 0 = x at hix hq' hq
        gi_wp2
        refine ⟨fun _ h => (by cases h), ?_⟩
        gi_wp2
        go_roundw
        case rel => exact ⟨m + 1, by omega, by go_num, by rw [objs_no st m HQ.out]; exact hj⟩
        case measure => simp [intOf]; omega
      · obtain ⟨hlen, hat⟩ := objs_at st m 65 hlt hq
        obtain ⟨fn, tmps, assign, body, hy, hR⟩ := hY (objs st m).length #[.int .i64 m] wr hlen hj (by rw [hat])
        have HQ := Lib.hid hq
        generalize st.getD m 0 = x at hix hq
        clear hlen hat
        gi_wp2
        refine hR.mono ?_
        rintro e W3 (⟨rfl, hj3, hk3⟩ | ⟨rfl, hj3⟩)
        · gi_wp2
          go_roundw
          case rel => exact ⟨m + 1, by omega, by go_num, by rw [objs_yes st m HQ.out, List.length_append]; exact hj3⟩
          case measure => simp [intOf]; omega
        · gi_wp2
          refine bodyPost_ret (results_none rfl _ _ _) rfl ?_
          exact ⟨⟨_, rfl⟩, .inr hj3⟩
    · obtain rfl : m = 65 := by omega
      gi_wp2
      go_end0
      exact ⟨⟨_, rfl⟩, .inl hj⟩
end Go.Proofs.Ytdomijfkpbganaa
