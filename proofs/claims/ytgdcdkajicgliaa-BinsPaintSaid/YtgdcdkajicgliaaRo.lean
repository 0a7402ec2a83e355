/- The document's Order. Conditions: each theorem's own premises. -/
import Derived.Test.YtgdcdkajicgliaaBinA4
namespace Go.Proofs.Ytgdcdkajicgliaa
open Go.RowKit
set_option linter.unusedVariables false
set_option maxRecDepth 100000
set_option linter.unusedSimpArgs false

theorem once_len {n : Nat} {zs : List Int} (h : zs.length ≠ n) : onceB zs n = false := by
  unfold onceB
  rw [decide_eq_false h, Bool.and_false]
set_option maxHeartbeats 4000000 in
theorem rorder_any (v : Value) (zs : List Int) (n : Nat) (w : World) (h : Ints .i64 w v zs) (hn : n ≤ 1000) (hl : zs.length ≤ 1000000) : Calls Try.prog 52 #[v, .int .i64 n] w fun e w' => e = .returned (.bool (onceB zs n)) ∧ Ext w w' := by
  have HI := Lib.hid h
  obtain ⟨⟨_, av, cap, rfl, hlk, hck, _⟩, _⟩ := h
  have i1 : (zs.length : Int) ≤ 1000000 := by omega
  have i2 : (n : Int) ≤ 1000 := by omega
  by_cases hne : zs.length = n
  · go_enter Try.func52, Try.ntmps52
    have hnei : (zs.length : Int) = (n : Int) := by omega
    have HNE := Lib.hid hne
    clear hne
    go_wp2_with fail
    go_loopw [15] (fun i wr => ∃ k : Nat, k ≤ zs.length ∧ i = .int .i64 k ∧ Hid (goodL n (zs.take k) ∧ Ext w wr)) (fun i _ => zs.length - (intOf i).toNat)
    case atStart => exact ⟨0, Nat.zero_le _, rfl, Lib.hid ⟨⟨by simp, by simp⟩, Ext.refl _⟩⟩
    case round =>
      rename World => wr
      obtain ⟨k, hk, rfl, HR⟩ := hrel
      by_cases hlt : k < zs.length
      · have hki : (k : Int) < (zs.length : Int) := by omega
        obtain ⟨b, off, rfl, hb, hcell⟩ := (HI.out.ext HR.out.2).pos (by omega)
        obtain ⟨z, hz⟩ : ∃ z, zs[k]? = some z := ⟨_, List.getElem?_eq_getElem hlt⟩
        have ek := hcell k hlt
        rw [List.getD_eq_getElem?_getD, hz] at ek
        have ek : wr.cell? ⟨b, off + k, none⟩ = some (.int .i64 z) := ek
        have HT : Hid (zs.take (k + 1) = zs.take k ++ [z]) := Lib.hid (by rw [List.take_add_one, hz]; rfl)
        clear hcell hz
        by_cases z0 : z < 0
        · have HO : Hid (onceB zs n = false) := Lib.hid (once_no (k := k + 1) (by rw [HT.out]; intro hg; have := hg.1 z (by simp); omega))
          go_wp2_with fail
          go_ret
          exact ⟨by rw [HO.out]; rfl, HR.out.2⟩
        · by_cases z1 : (n : Int) ≤ z
          · have HO : Hid (onceB zs n = false) := Lib.hid (once_no (k := k + 1) (by rw [HT.out]; intro hg; have := hg.1 z (by simp); omega))
            go_wp2_with fail
            go_ret
            exact ⟨by rw [HO.out]; rfl, HR.out.2⟩
          · have hkc : k ≤ cap := by omega
            go_wp2_with fail
            go_loopw [31] (fun i wq => ∃ m : Nat, m ≤ k ∧ i = .int .i64 m ∧ Hid ((∀ j, j < m → zs[j]? ≠ some z) ∧ Ext w wq)) (fun i _ => k - (intOf i).toNat)
            case atStart => exact ⟨0, Nat.zero_le _, rfl, Lib.hid ⟨fun j hj => absurd hj (Nat.not_lt_zero _), HR.out.2⟩⟩
            case round =>
              rename World => wq
              obtain ⟨m, hm, rfl, HQ⟩ := hrel
              by_cases hmk : m < k
              · have hmi : (m : Int) < (k : Int) := by omega
                obtain ⟨b2, off2, he2, hb2, hcell2⟩ := (HI.out.ext HQ.out.2).pos (by omega)
                simp only [Option.some.injEq, Addr.mk.injEq, and_true] at he2
                obtain ⟨rfl, rfl⟩ := he2
                obtain ⟨y, hy⟩ : ∃ y, zs[m]? = some y := ⟨_, List.getElem?_eq_getElem (by omega)⟩
                have em := hcell2 m (by omega)
                rw [List.getD_eq_getElem?_getD, hy] at em
                have em : wq.cell? ⟨b, off + m, none⟩ = some (.int .i64 y) := em
                have HY := Lib.hid hy
                clear hcell2 hy
                by_cases hzy : z = y
                · subst hzy
                  have HO : Hid (onceB zs n = false) := Lib.hid (once_no (k := k + 1) (by
                    rw [HT.out]
                    intro hg
                    have hmem : z ∈ zs.take k := List.mem_of_getElem? (i := m) (by rw [List.getElem?_take, if_pos hmk]; exact HY.out)
                    have := (List.nodup_append.1 hg.2).2.2 z hmem z (by simp)
                    exact this rfl))
                  go_wp2_with fail
                  go_ret
                  exact ⟨by rw [HO.out]; rfl, HQ.out.2⟩
                · go_wp2_with fail
                  go_roundw
                  case rel => exact ⟨m + 1, by omega, by go_num, Lib.hid ⟨fun j hj => by
                    by_cases hjm : j = m
                    · subst hjm
                      rw [HY.out]
                      intro e
                      exact hzy (Option.some.inj e).symm
                    · exact HQ.out.1 j (by omega), HQ.out.2⟩⟩
                  case measure => simp [intOf]; omega
              · obtain rfl : m = k := by omega
                have HG : Hid (goodL n (zs.take (m + 1))) := Lib.hid (by
                  rw [HT.out]
                  refine ⟨fun x hx => ?_, ?_⟩
                  · rcases List.mem_append.1 hx with hx | hx
                    · exact HR.out.1.1 x hx
                    · rw [List.mem_singleton.1 hx]; omega
                  · refine List.nodup_append.2 ⟨HR.out.1.2, by simp, fun x hx y hy e => ?_⟩
                    rw [List.mem_singleton.1 hy] at e
                    subst e
                    obtain ⟨j, hj, he⟩ := List.getElem_of_mem hx
                    rw [List.length_take] at hj
                    rw [List.getElem_take] at he
                    exact HQ.out.1 j (by omega) (by rw [List.getElem?_eq_getElem (by omega), he]))
                go_wp2_with fail
                go_roundw
                case rel => exact ⟨m + 1, by omega, by go_num, Lib.hid ⟨HG.out, HQ.out.2⟩⟩
                case measure => simp [intOf]; omega
      · obtain rfl : k = zs.length := by omega
        have hg := HR.out.1
        rw [List.take_length] at hg
        have HO : Hid (onceB zs n = true) := Lib.hid (by unfold onceB; rw [decide_eq_true hg, decide_eq_true HNE.out]; rfl)
        clear hg
        go_wp2_with fail
        go_ret
        exact ⟨by rw [HO.out]; rfl, HR.out.2⟩
  · have HO := Lib.hid (once_len hne)
    have hnei : ¬ (zs.length : Int) = (n : Int) := by omega
    go_enter Try.func52, Try.ntmps52
    go_wp2_with fail
    go_ret
    exact ⟨by rw [HO.out]; rfl, Ext.refl _⟩
end Go.Proofs.Ytgdcdkajicgliaa
