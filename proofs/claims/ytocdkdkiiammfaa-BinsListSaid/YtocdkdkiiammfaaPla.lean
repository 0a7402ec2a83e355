/- Strokes of tiles, new bins, rows that stay: for the lists of bins. Conditions: each theorem's own premises. -/
import Derived.Test.YtocdkdkiiammfaaBinA3
import Derived.Test.YtocdkdkiiammfaaRl
import Derived.Test.YtocdkdkiiammfaaBinT
namespace Go.Proofs.Ytocdkdkiiammfaa
open Go.RowKit
set_option linter.unusedVariables false
set_option maxRecDepth 100000
set_option linter.unusedSimpArgs false

theorem addS_getD {W H n : Nat} (hW : W ≤ 64) (hn : n = acr W * acr H) : ∀ (L : List Sk) (T : List (List Sk)), T.length = n → ∀ t : Nat, t < n → (L.foldl (addS W H) T).getD t [] = T.getD t [] ++ L.filter (inT W H t)
  | [], T, _, t, _ => by simp
  | q :: L, T, hl, t, ht => by
    show (L.foldl (addS W H) (addS W H T q)).getD t [] = _
    rw [addS_getD hW hn L _ ((addS_len W H T q).trans hl) t ht]
    unfold addS
    cases hq : inB W H q.x q.y with
    | false =>
      rw [if_neg (by decide), List.filter_cons_of_neg (by unfold inT; rw [hq, Bool.false_and]; decide)]
    | true =>
      obtain ⟨h1, h2⟩ := tile_lt hq hW
      rw [if_pos rfl]
      obtain ⟨k, hk⟩ : ∃ k : Nat, tlV W q.x q.y = k := ⟨(tlV W q.x q.y).toNat, by omega⟩
      rw [hk, Int.toNat_natCast]
      have hkn : k < n := by rw [hk] at h2; omega
      by_cases e : k = t
      · subst e
        rw [List.getD_eq_getElem?_getD, List.getElem?_set_self (by rw [hl]; exact hkn), List.filter_cons_of_pos (by unfold inT; rw [hq, hk]; simp), Option.getD_some, List.append_assoc]
        rfl
      · rw [List.getD_eq_getElem?_getD, List.getElem?_set_ne e, ← List.getD_eq_getElem?_getD, List.filter_cons_of_neg (by unfold inT; rw [hq, hk]; simp; omega)]
theorem few_facts {Lo L : List (Sk × Value)} (h : Lo.map (·.1) = trimL L 200) : Lo.length ≤ 200 ∧ ∀ q ∈ Lo, q.1.vars.length ≤ 3 := by
  refine ⟨?_, fun q hq => ?_⟩
  · have := congrArg List.length h
    rw [List.length_map] at this
    rw [this]
    unfold trimL
    rw [List.length_map, List.length_take]
    omega
  · have hm : q.1 ∈ trimL L 200 := by rw [← h]; exact List.mem_map.2 ⟨q, hq, rfl⟩
    unfold trimL at hm
    obtain ⟨r, _, hr⟩ := List.mem_map.1 hm
    rw [← hr]
    show (r.1.vars.take 3).length ≤ 3
    rw [List.length_take]
    omega
theorem trim_trim (q : Sk) : q.trim.trim = q.trim := by
  unfold Sk.trim
  simp [List.take_take]
theorem trim_again {L1 L : List (Sk × Value)} (h : L1.map (·.1) = trimL L 200) : trimL L1 200 = L1.map (·.1) := by
  have hl := (few_facts h).1
  have e : trimL L1 200 = (L1.map (·.1)).map Sk.trim := by
    unfold trimL
    rw [List.take_of_length_le hl, List.map_map]
    rfl
  rw [e, h]
  unfold trimL
  rw [List.map_map]
  refine List.map_congr_left fun q _ => ?_
  exact trim_trim q.1
theorem fresh_bin {w w' : World} {p g W H : Nat} (h1 : w.heap.size ≤ g) (h2 : g < p) (hb : BAt w' p W H (.slice (some ⟨g, 0, none⟩) (acr W * acr H) (acr W * acr H)) 0) (hg : w'.heap[g]? = some (.cells (List.replicate (acr W * acr H) (Value.slice none 0 0)).toArray 34 (0, 0))) (x : Ext w w') :
    BinAt w.heap.size w' p g W H (List.replicate (acr W * acr H) (.slice none 0 0, [])) 0 :=
  ⟨by rw [List.length_replicate]; exact hb, by rw [List.map_replicate]; exact hg, fun i x hx => by
    rw [(List.mem_replicate.1 (List.mem_of_getElem? hx)).2]
    exact ⟨World.ownsRow_nil _ _ _ _, by simp⟩, fun i j x y hx _ _ k hk => by
    rw [(List.mem_replicate.1 (List.mem_of_getElem? hx)).2] at hk
    simp [Value.ownBlock] at hk, by rw [List.length_replicate], x.size, by omega, h1⟩
theorem skel_new (n : Nat) : skel (List.replicate n (.slice none 0 0, [])) = List.replicate n [] := by
  unfold skel
  rw [List.map_replicate]
  rfl
theorem sks_far {M : List Nat} {base : Nat} {w w' : World} {v : Value} {L : List (Sk × Value)} (h : SksMy base w v L) (x : Chg M w w') (hv : ∀ k, v.ownBlock = some k → k ∉ M) (hq : ∀ q ∈ L, ∀ k, q.2.ownBlock = some k → k ∉ M) : SksMy base w' v L :=
  ⟨owns_chg h.1 x hv, fun q hm => owns_chg (h.2 q hm) x (hq q hm)⟩
theorem BinAt.far {M : List Nat} {base : Nat} {w w' : World} {p g W H : Nat} {T : List Tl} {n : Int} (h : BinAt base w p g W H T n) (x : Chg M w w') (hp : p ∉ M) (hg : g ∉ M) (hT : ∀ t ∈ T, ∀ k, t.1.ownBlock = some k → k ∉ M) (hV : ∀ t ∈ T, ∀ q ∈ t.2, ∀ k, q.2.ownBlock = some k → k ∉ M) : BinAt base w' p g W H T n :=
  ⟨h.b.chg x hp, x.heap h.r hg, fun i y hy => sks_far (h.t i y hy) x (hT y (List.mem_of_getElem? hy)) (hV y (List.mem_of_getElem? hy)), h.d, h.l, Nat.le_trans h.h1 x.size, h.h2, h.h3⟩
theorem cntS_append (W H : Nat) (L M : List Sk) : cntS W H (L ++ M) = cntS W H L + cntS W H M := by
  unfold cntS
  rw [List.filter_append, List.length_append]
/-- The blocks of strokes. -/
def skM (v : Value) (L : List (Sk × Value)) : List Nat := v.ownBlock.toList ++ L.flatMap fun q => q.2.ownBlock.toList
theorem skM_v {v : Value} {L : List (Sk × Value)} {k : Nat} (h : v.ownBlock = some k) : k ∈ skM v L := by
  unfold skM
  simp [h]
theorem skM_q {v : Value} {L : List (Sk × Value)} {q : Sk × Value} (hq : q ∈ L) {k : Nat} (h : q.2.ownBlock = some k) : k ∈ skM v L := by
  unfold skM
  rw [List.mem_append, List.mem_flatMap]
  exact .inr ⟨q, hq, by simp [h]⟩
theorem skM_of {base : Nat} {w : World} {v : Value} {L : List (Sk × Value)} (h : SksMy base w v L) {k : Nat} (hk : k ∈ skM v L) : base ≤ k ∧ ∃ cur e, w.heap[k]? = some (.cells cur e (0, 0)) ∧ (e = 46 ∨ e = 41) := by
  unfold skM at hk
  rw [List.mem_append, List.mem_flatMap] at hk
  rcases hk with hk | ⟨q, hq, hk⟩
  · simp only [Option.mem_toList] at hk
    obtain ⟨cur, h1, h2⟩ := own_type h.1 hk
    exact ⟨h2, cur, _, h1, .inl rfl⟩
  · simp only [Option.mem_toList] at hk
    obtain ⟨cur, h1, h2⟩ := own_type (h.2 q hq) hk
    exact ⟨h2, cur, _, h1, .inr rfl⟩
theorem skM_lt {base : Nat} {w : World} {v : Value} {L : List (Sk × Value)} (h : SksMy base w v L) {k : Nat} (hk : k ∈ skM v L) : base ≤ k ∧ k < w.heap.size := by
  obtain ⟨h1, cur, e, h2, _⟩ := skM_of h hk
  exact ⟨h1, heap_lt h2⟩
theorem rtiles_any (W H : Nat) (w : World) (hW : W ≤ 64) (hH : H ≤ 64) : Calls Try.prog 12 #[.int .i64 W, .int .i64 H] w fun e w' => e = .returned (.int .i64 (acr W * acr H : Nat)) ∧ w = w' := by
  have h1 := acr_le hW
  have h2 := acr_le hH
  have h3 := Nat.mul_le_mul h1 h2
  have HA := Lib.hid (fun w => racross_any W (by omega) w)
  have HB := Lib.hid (fun w => racross_any H (by omega) w)
  generalize acr W = a at *
  generalize acr H = b at *
  have e1 : IntKind.i64.wrap ((a : Int) * (b : Int)) = ((a * b : Nat) : Int) := by rw [← Int.natCast_mul, IntWalk.i64_in _ (by omega)]
  go_enter Try.func12, Try.ntmps12
  go_wp2_with (first | (go_at_call_of 20 (Value.int IntKind.i64 (W : Int)); refine (HA.out _).mono ?_; rintro _ _ ⟨rfl, rfl⟩) | (go_at_call_of 20 (Value.int IntKind.i64 (H : Int)); refine (HB.out _).mono ?_; rintro _ _ ⟨rfl, rfl⟩))
  go_ret
  exact ⟨by first | rfl | (rw [← e1]; rfl) | simp [e1], rfl⟩
end Go.Proofs.Ytocdkdkiiammfaa
