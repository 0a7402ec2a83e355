/- Strokes in different tiles may be painted in whatever order, in plain words. Conditions: each theorem's own premises. Painting tile by tile is painting stroke by stroke, in plain words. Conditions: each theorem's own premises. New bins, strokes added to them; few strokes, once more few. Conditions: each theorem's own premises. -/
import Derived.Test.YtgdcdkajicgliaaBinP
import Derived.Test.YtgdcdkajicgliaaRl
namespace Go.Proofs.Ytgdcdkajicgliaa
open Go.RowKit
set_option linter.unusedVariables false
set_option maxRecDepth 100000
set_option linter.unusedSimpArgs false

theorem splice_at {α : Type} (l m : List α) (p k : Nat) (h : p + m.length ≤ l.length) : (splice l p m)[k]? = if p ≤ k ∧ k < p + m.length then m[k - p]? else l[k]? := by
  unfold splice
  by_cases h1 : k < p
  · rw [if_neg (by omega), List.getElem?_append_left (by rw [List.length_take]; omega), List.getElem?_take, if_pos h1]
  · have e : (l.take p).length = p := by rw [List.length_take]; omega
    rw [List.getElem?_append_right (by rw [e]; omega), e]
    by_cases h2 : k < p + m.length
    · rw [if_pos ⟨by omega, h2⟩, List.getElem?_append_left (by omega)]
    · rw [if_neg (by omega), List.getElem?_append_right (by omega), List.getElem?_drop]
      congr 1
      omega
theorem splice_comm {α : Type} (l m n : List α) (p q : Nat) (hp : p + m.length ≤ l.length) (hq : q + n.length ≤ l.length) (hd : p + m.length ≤ q ∨ q + n.length ≤ p) : splice (splice l p m) q n = splice (splice l q n) p m := by
  apply List.ext_getElem?
  intro k
  have e1 := length_splice l p m hp
  have e2 := length_splice l q n hq
  rw [splice_at _ n q k (by rw [e1]; exact hq), splice_at _ m p k hp, splice_at _ m p k (by rw [e2]; exact hp), splice_at _ n q k hq]
  by_cases a : p ≤ k ∧ k < p + m.length
  · have b : ¬ (q ≤ k ∧ k < q + n.length) := by omega
    rw [if_neg b, if_pos a, if_pos a]
  · rw [if_neg a, if_neg a]
theorem layV_comm {P : Pl} (h : P.Ok) {i j : Nat} (hi : i < P.W * P.H) (hj : j < P.W * P.H) (hd : i ≠ j) (c d : Ce) : layV (layV P i c) j d = layV (layV P j d) i c := by
  have hfi := lay_fit h hi
  have hfj := lay_fit h hj
  have hl1 := lowB_length (szN P.F) (packX P.F c.v.L)
  have hl2 := lowB_length (szN P.F) (packX P.F d.v.L)
  have hc : splice (splice P.col (i * szN P.F) (lowB (packX P.F c.v.L) (szN P.F))) (j * szN P.F) (lowB (packX P.F d.v.L) (szN P.F)) = splice (splice P.col (j * szN P.F) (lowB (packX P.F d.v.L) (szN P.F))) (i * szN P.F) (lowB (packX P.F c.v.L) (szN P.F)) := by
    refine splice_comm _ _ _ _ _ (by rw [hl1]; exact hfi) (by rw [hl2]; exact hfj) ?_
    rw [hl1, hl2]
    rcases Nat.lt_or_gt_of_ne hd with g | g
    · have := Nat.mul_le_mul_right (szN P.F) (show i + 1 ≤ j by omega)
      rw [Nat.succ_mul] at this
      exact .inl this
    · have := Nat.mul_le_mul_right (szN P.F) (show j + 1 ≤ i by omega)
      rw [Nat.succ_mul] at this
      exact .inr this
  unfold layV
  simp only [hc]
  congr 1
  · cases P.dep
    · rfl
    · simp only [if_true]
      exact List.set_comm _ _ hd
  · cases P.sten
    · rfl
    · simp only [if_true]
      exact List.set_comm _ _ hd
/-- A stroke's place. -/
def plc (P : Pl) (q : Sk) : Nat := q.y.toNat * P.W + q.x.toNat
theorem plc_lt {P : Pl} {q : Sk} (h : inP P.W P.H q.x q.y = true) : plc P q < P.W * P.H := by
  obtain ⟨h1, h2, h3, h4⟩ := inP_true h
  unfold plc
  have := Nat.mul_le_mul_right P.W (show q.y.toNat + 1 ≤ P.H by omega)
  rw [Nat.succ_mul, Nat.mul_comm P.H] at this
  omega
theorem plc_tile {P : Pl} {q r : Sk} (hq : inP P.W P.H q.x q.y = true) (hr : inP P.W P.H r.x r.y = true) (hd : tlV P.W q.x q.y ≠ tlV P.W r.x r.y) : plc P q ≠ plc P r := fun e => by
  obtain ⟨a1, a2, a3, a4⟩ := inP_true hq
  obtain ⟨b1, b2, b3, b4⟩ := inP_true hr
  unfold plc at e
  have e1 : q.x.toNat = r.x.toNat := by
    have := congrArg (· % P.W) e
    simp only [Nat.mul_comm _ P.W, Nat.mul_add_mod] at this
    rwa [Nat.mod_eq_of_lt (by omega), Nat.mod_eq_of_lt (by omega)] at this
  have e2 : q.y.toNat = r.y.toNat := by
    rw [e1] at e
    have h3 : q.y.toNat * P.W = r.y.toNat * P.W := by omega
    exact Nat.eq_of_mul_eq_mul_right (by omega) h3
  apply hd
  rw [show q.x = r.x by omega, show q.y = r.y by omega]
theorem ptV_other (s : St) {P : Pl} (h : P.Ok) {q r : Sk} (hq : inP P.W P.H q.x q.y = true) (hr : inP P.W P.H r.x r.y = true) (hd : plc P q ≠ plc P r) : ptV s (skF r) r.col (ptP s (skF q) q.col P) = ptV s (skF r) r.col P := by
  have hc := cellV_lay h (plc_lt hq) (plc_lt hr) (ptV s (skF q) q.col P).1
  rw [if_neg (fun e => hd e.symm)] at hc
  show applyV (sM s P) (skF r) r.col (cellV (layV P (plc P q) (ptV s (skF q) q.col P).1) (plc P r)) = applyV (sM s P) (skF r) r.col (cellV P (plc P r))
  rw [hc]
theorem stepK_out (s : St) (a : Pl × Nat) (q : Sk) (h : inP a.1.W a.1.H q.x q.y = false) : stepK s a q = a := by
  unfold stepK
  rw [if_neg]
  rw [h]
  decide
theorem stepK_in (s : St) (a : Pl × Nat) (q : Sk) (h : inP a.1.W a.1.H q.x q.y = true) : stepK s a q = (ptP s (skF q) q.col a.1, a.2 + if (ptV s (skF q) q.col a.1).2 then 1 else 0) := by
  unfold stepK
  rw [if_pos h]
theorem stepK_comm (s : St) (a : Pl × Nat) (h : a.1.Ok) (q r : Sk) (hd : inP a.1.W a.1.H q.x q.y = true → inP a.1.W a.1.H r.x r.y = true → tlV a.1.W q.x q.y ≠ tlV a.1.W r.x r.y) : stepK s (stepK s a q) r = stepK s (stepK s a r) q := by
  obtain ⟨dq1, dq2⟩ := stepK_dim s a q
  obtain ⟨dr1, dr2⟩ := stepK_dim s a r
  cases hq : inP a.1.W a.1.H q.x q.y with
  | false => rw [stepK_out s a q hq, stepK_out s (stepK s a r) q (by rw [dr1, dr2]; exact hq)]
  | true =>
    cases hr : inP a.1.W a.1.H r.x r.y with
    | false => rw [stepK_out s a r hr, stepK_out s (stepK s a q) r (by rw [dq1, dq2]; exact hr)]
    | true =>
      have hne := plc_tile hq hr (hd hq hr)
      rw [stepK_in s (stepK s a q) r (by rw [dq1, dq2]; exact hr), stepK_in s (stepK s a r) q (by rw [dr1, dr2]; exact hq), stepK_in s a q hq, stepK_in s a r hr]
      have e1 := ptV_other s h hq hr hne
      have e2 := ptV_other s h hr hq (fun e => hne e.symm)
      have e3 : ptP s (skF r) r.col (ptP s (skF q) q.col a.1) = ptP s (skF q) q.col (ptP s (skF r) r.col a.1) := by
        show layV (layV a.1 (plc a.1 q) (ptV s (skF q) q.col a.1).1) (plc a.1 r) (ptV s (skF r) r.col (ptP s (skF q) q.col a.1)).1 = layV (layV a.1 (plc a.1 r) (ptV s (skF r) r.col a.1).1) (plc a.1 q) (ptV s (skF q) q.col (ptP s (skF r) r.col a.1)).1
        rw [e1, e2]
        exact layV_comm h (plc_lt hq) (plc_lt hr) hne _ _
      refine Prod.ext e3 ?_
      show a.2 + _ + _ = a.2 + _ + _
      rw [e1, e2]
      omega
theorem stepK_ok (s : St) (a : Pl × Nat) (h : a.1.Ok) (q : Sk) : (stepK s a q).1.Ok := by
  cases hq : inP a.1.W a.1.H q.x q.y with
  | false => rw [stepK_out s a q hq]; exact h
  | true => rw [stepK_in s a q hq]; exact layV_ok h (plc_lt hq) _
/-- Parts of a list, each moved together, where steps of different parts may be turned. -/
theorem fold_move {α β : Type} (f : α → β → α) (inv : α → Prop) (cls : β → Int) (hcomm : ∀ a, inv a → ∀ x y, cls x ≠ cls y → f (f a x) y = f (f a y) x) (hinv : ∀ a x, inv a → inv (f a x)) (x : β) : ∀ (A : List β), (∀ y ∈ A, cls y ≠ cls x) → ∀ a, inv a → f (A.foldl f a) x = A.foldl f (f a x)
  | [], _, _, _ => rfl
  | y :: A, h, a, ha => by
    show f (A.foldl f (f a y)) x = A.foldl f (f (f a x) y)
    rw [fold_move f inv cls hcomm hinv x A (fun z hz => h z (by simp [hz])) _ (hinv a y ha), hcomm a ha y x (h y (by simp))]
theorem fold_split {α β : Type} (f : α → β → α) (inv : α → Prop) (cls : β → Int) (hcomm : ∀ a, inv a → ∀ x y, cls x ≠ cls y → f (f a x) y = f (f a y) x) (hinv : ∀ a x, inv a → inv (f a x)) (z : Int) : ∀ (L : List β) (a : α), inv a → (L.filter fun x => !decide (cls x = z)).foldl f ((L.filter fun x => decide (cls x = z)).foldl f a) = L.foldl f a
  | [], _, _ => rfl
  | x :: L, a, ha => by
    by_cases hx : cls x = z
    · rw [List.filter_cons_of_pos (by simpa using hx), List.filter_cons_of_neg (by simpa using hx)]
      exact fold_split f inv cls hcomm hinv z L (f a x) (hinv a x ha)
    · rw [List.filter_cons_of_neg (by simpa using hx), List.filter_cons_of_pos (by simpa using hx)]
      show (L.filter fun x => !decide (cls x = z)).foldl f (f ((L.filter fun x => decide (cls x = z)).foldl f a) x) = L.foldl f (f a x)
      rw [fold_move f inv cls hcomm hinv x _ (fun y hy => by
        have := (List.mem_filter.1 hy).2
        simp only [decide_eq_true_eq] at this
        rw [this]
        exact fun e => hx e.symm) a ha]
      exact fold_split f inv cls hcomm hinv z L (f a x) (hinv a x ha)
theorem fold_parts {α β : Type} (f : α → β → α) (inv : α → Prop) (cls : β → Int) (hcomm : ∀ a, inv a → ∀ x y, cls x ≠ cls y → f (f a x) y = f (f a y) x) (hinv : ∀ a x, inv a → inv (f a x)) : ∀ (zs : List Int) (L : List β), zs.Nodup → (∀ x ∈ L, cls x ∈ zs) → ∀ a, inv a → zs.foldl (fun a z => (L.filter fun x => decide (cls x = z)).foldl f a) a = L.foldl f a
  | [], L, _, hL, a, _ => by
    cases L with
    | nil => rfl
    | cons x L => exact absurd (hL x (by simp)) (by simp)
  | z :: zs, L, hn, hL, a, ha => by
    obtain ⟨hz, hn2⟩ := List.nodup_cons.1 hn
    have hfi : ∀ (L : List β) a, inv a → inv (L.foldl f a) := fun L => by
      induction L with
      | nil => intro a h; exact h
      | cons y L ih => intro a h; exact ih _ (hinv a y h)
    show zs.foldl _ ((L.filter fun x => decide (cls x = z)).foldl f a) = _
    rw [← fold_split f inv cls hcomm hinv z L a ha, ← fold_parts f inv cls hcomm hinv zs (L.filter fun x => !decide (cls x = z)) hn2 (fun x hx => by
      obtain ⟨h1, h2⟩ := List.mem_filter.1 hx
      simp only [Bool.not_eq_true', decide_eq_false_iff_not] at h2
      rcases List.mem_cons.1 (hL x h1) with h3 | h3
      · exact absurd h3 h2
      · exact h3) _ (hfi _ a ha)]
    have key : ∀ (zs2 : List Int), (∀ y ∈ zs2, y ≠ z) → ∀ a, zs2.foldl (fun a z => (L.filter fun x => decide (cls x = z)).foldl f a) a = zs2.foldl (fun a w => ((L.filter fun x => !decide (cls x = z)).filter fun x => decide (cls x = w)).foldl f a) a := fun zs2 => by
      induction zs2 with
      | nil => intro _ a; rfl
      | cons y zs2 ih =>
        intro hy a
        show zs2.foldl _ ((L.filter fun x => decide (cls x = y)).foldl f a) = zs2.foldl _ (((L.filter fun x => !decide (cls x = z)).filter fun x => decide (cls x = y)).foldl f a)
        have e : (L.filter fun x => !decide (cls x = z)).filter (fun x => decide (cls x = y)) = L.filter fun x => decide (cls x = y) := by
          rw [List.filter_filter]
          refine List.filter_congr fun x _ => ?_
          by_cases h : cls x = y
          · have h2 : ¬ cls x = z := by rw [h]; exact hy y (by simp)
            simp [h2]
          · simp [h]
        rw [e]
        exact ih (fun v hv => hy v (by simp [hv])) _
    exact key zs (fun y hy e => hz (e ▸ hy)) _
end Go.Proofs.Ytgdcdkajicgliaa
namespace Go.Proofs.Ytgdcdkajicgliaa
open Go.RowKit
set_option linter.unusedVariables false
set_option maxRecDepth 100000
set_option linter.unusedSimpArgs false

theorem inB_inP (W H : Nat) (x y : Int) : inB W H x y = inP W H x y := by
  unfold inB inP
  cases decide (0 ≤ x) <;> cases decide (x < W) <;> cases decide (0 ≤ y) <;> cases decide (y < H) <;> rfl
theorem addS_getD {W H n : Nat} (hW : W ≤ 64) (hn : n = acr W * acr H) : ∀ (L : List Sk) (T : List (List Sk)), T.length = n → ∀ t : Nat, t < n → (L.foldl (addS W H) T).getD t [] = T.getD t [] ++ L.filter (inT W H t)
  | [], T, _, t, _ => by simp
  | q :: L, T, hl, t, ht => by
    show (L.foldl (addS W H) (addS W H T q)).getD t [] = _
    rw [addS_getD hW hn L _ ((addS_len W H T q).trans hl) t ht]
    unfold addS
    cases hq : inB W H q.x q.y with
    | false =>
      rw [if_neg (by decide), List.filter_cons_of_neg (by unfold inT; rw [hq, Bool.false_and]; decide)]
    | true =>
      obtain ⟨h1, h2⟩ := tile_lt hq hW
      rw [if_pos rfl]
      obtain ⟨k, hk⟩ : ∃ k : Nat, tlV W q.x q.y = k := ⟨(tlV W q.x q.y).toNat, by omega⟩
      rw [hk, Int.toNat_natCast]
      have hkn : k < n := by rw [hk] at h2; omega
      by_cases e : k = t
      · subst e
        rw [List.getD_eq_getElem?_getD, List.getElem?_set_self (by rw [hl]; exact hkn), List.filter_cons_of_pos (by unfold inT; rw [hq, hk]; simp), Option.getD_some, List.append_assoc]
        rfl
      · rw [List.getD_eq_getElem?_getD, List.getElem?_set_ne e, ← List.getD_eq_getElem?_getD, List.filter_cons_of_neg (by unfold inT; rw [hq, hk]; simp; omega)]
theorem nodup_le : ∀ (n : Nat) (l : List Int), l.Nodup → (∀ z ∈ l, 0 ≤ z ∧ z < n) → l.length ≤ n
  | 0, l, _, h => by
    cases l with
    | nil => exact Nat.le_refl _
    | cons z l => have := h z (by simp); omega
  | n + 1, l, hn, h => by
    by_cases hm : (n : Int) ∈ l
    · have h1 := nodup_le n (l.erase (n : Int)) (hn.erase _) (fun z hz => by
        have h2 := h z (List.mem_of_mem_erase hz)
        have h3 : z ≠ n := fun e => by
          subst e
          exact (List.Nodup.mem_erase_iff hn).1 hz |>.1 rfl
        omega)
      rw [List.length_erase_of_mem hm] at h1
      omega
    · have h1 := nodup_le n l hn (fun z hz => by
        have h2 := h z hz
        have h3 : z ≠ n := fun e => hm (e ▸ hz)
        omega)
      omega
theorem onceB_all {zs : List Int} {n : Nat} (h : onceB zs n = true) : zs.Nodup ∧ ∀ t : Int, 0 ≤ t → t < n → t ∈ zs := by
  have hin := onceB_in h
  unfold onceB at h
  rw [Bool.and_eq_true, decide_eq_true_eq, decide_eq_true_eq] at h
  refine ⟨h.1.2, fun t h0 h1 => Classical.byContradiction fun hm => ?_⟩
  have := nodup_le n (t :: zs) (List.nodup_cons.2 ⟨hm, h.1.2⟩) (fun z hz => by
    rcases List.mem_cons.1 hz with rfl | hz
    · exact ⟨h0, h1⟩
    · exact hin z hz)
  rw [List.length_cons, h.2] at this
  omega
theorem foldl_parts_congr {α β : Type} (f : α → β → α) (F G : Int → List β) : ∀ (zs : List Int) (a : α), (∀ t ∈ zs, F t = G t) → zs.foldl (fun a t => (F t).foldl f a) a = zs.foldl (fun a t => (G t).foldl f a) a
  | [], _, _ => rfl
  | z :: zs, a, h => by
    show zs.foldl (fun a t => (F t).foldl f a) ((F z).foldl f a) = zs.foldl (fun a t => (G t).foldl f a) ((G z).foldl f a)
    rw [h z (by simp)]
    exact foldl_parts_congr f F G zs _ (fun t ht => h t (by simp [ht]))
theorem fold_in (s : St) (W H : Nat) : ∀ (L : List Sk) (a : Pl × Nat), a.1.W = W → a.1.H = H → (L.filter fun q => inB W H q.x q.y).foldl (stepK s) a = L.foldl (stepK s) a
  | [], _, _, _ => rfl
  | q :: L, a, hw, hh => by
    obtain ⟨d1, d2⟩ := stepK_dim s a q
    cases hq : inB W H q.x q.y with
    | false =>
      rw [List.filter_cons_of_neg (by rw [hq]; decide)]
      show _ = L.foldl (stepK s) (stepK s a q)
      rw [stepK_out s a q (by rw [hw, hh, ← inB_inP]; exact hq)]
      exact fold_in s W H L a hw hh
    | true =>
      rw [List.filter_cons_of_pos (by exact hq)]
      exact fold_in s W H L (stepK s a q) (d1.trans hw) (d2.trans hh)
/-- The stage's law. -/
theorem paint_whole (s : St) (P : Pl) (h : P.Ok) (L : List Sk) (zs : List Int) (n : Nat) (hn : n = acr P.W * acr P.H) (ho : onceB zs n = true) : paintK s (L.foldl (addS P.W P.H) (List.replicate n [])) zs (P, 0) = L.foldl (stepK s) (P, 0) := by
  obtain ⟨hnd, hall⟩ := onceB_all ho
  have hin := onceB_in ho
  have e1 : paintK s (L.foldl (addS P.W P.H) (List.replicate n [])) zs (P, 0) = zs.foldl (fun a t => ((L.filter fun q => inB P.W P.H q.x q.y).filter fun q => decide (tlV P.W q.x q.y = t)).foldl (stepK s) a) (P, 0) := by
    refine foldl_parts_congr (stepK s) (fun t => (L.foldl (addS P.W P.H) (List.replicate n [])).getD t.toNat []) _ zs (P, 0) fun t ht => ?_
    obtain ⟨h0, h1⟩ := hin t ht
    rw [addS_getD h.w2 hn L _ (by simp) t.toNat (by omega), List.filter_filter]
    rw [List.getD_eq_getElem?_getD, List.getElem?_replicate]
    rw [if_pos (by omega)]
    show [] ++ _ = _
    rw [List.nil_append]
    refine List.filter_congr fun q _ => ?_
    unfold inT
    rw [show ((t.toNat : Nat) : Int) = t by omega, Bool.and_comm]
  rw [e1, fold_parts (stepK s) (fun a => a.1.Ok ∧ a.1.W = P.W ∧ a.1.H = P.H) (fun q => tlV P.W q.x q.y) (fun a ha q r hne => stepK_comm s a ha.1 q r (fun _ _ => by rw [ha.2.1]; exact hne)) (fun a q ha => ⟨stepK_ok s a ha.1 q, (stepK_dim s a q).1.trans ha.2.1, (stepK_dim s a q).2.trans ha.2.2⟩) zs (L.filter fun q => inB P.W P.H q.x q.y) hnd (fun q hq => by
    have h1 := (List.mem_filter.1 hq).2
    obtain ⟨h2, h3⟩ := tile_lt h1 h.w2
    rw [← hn] at h3
    exact hall _ h2 h3) (P, 0) ⟨h, rfl, rfl⟩]
  exact fold_in s P.W P.H L (P, 0) rfl rfl
end Go.Proofs.Ytgdcdkajicgliaa
namespace Go.Proofs.Ytgdcdkajicgliaa
open Go.RowKit
set_option linter.unusedVariables false
set_option maxRecDepth 100000
set_option linter.unusedSimpArgs false

theorem few_facts {Lo L : List (Sk × Value)} (h : Lo.map (·.1) = trimL L 200) : Lo.length ≤ 200 ∧ ∀ q ∈ Lo, q.1.vars.length ≤ 3 := by
  refine ⟨?_, fun q hq => ?_⟩
  · have := congrArg List.length h
    rw [List.length_map] at this
    rw [this]
    unfold trimL
    rw [List.length_map, List.length_take]
    omega
  · have hm : q.1 ∈ trimL L 200 := by rw [← h]; exact List.mem_map.2 ⟨q, hq, rfl⟩
    unfold trimL at hm
    obtain ⟨r, _, hr⟩ := List.mem_map.1 hm
    rw [← hr]
    show (r.1.vars.take 3).length ≤ 3
    rw [List.length_take]
    omega
theorem trim_trim (q : Sk) : q.trim.trim = q.trim := by
  unfold Sk.trim
  simp [List.take_take]
theorem trim_again {L1 L : List (Sk × Value)} (h : L1.map (·.1) = trimL L 200) : trimL L1 200 = L1.map (·.1) := by
  have hl := (few_facts h).1
  have e : trimL L1 200 = (L1.map (·.1)).map Sk.trim := by
    unfold trimL
    rw [List.take_of_length_le hl, List.map_map]
    rfl
  rw [e, h]
  unfold trimL
  rw [List.map_map]
  refine List.map_congr_left fun q _ => ?_
  exact trim_trim q.1
theorem fresh_bin {w w' : World} {p g W H : Nat} (h1 : w.heap.size ≤ g) (h2 : g < p) (hb : BAt w' p W H (.slice (some ⟨g, 0, none⟩) (acr W * acr H) (acr W * acr H)) 0) (hg : w'.heap[g]? = some (.cells (List.replicate (acr W * acr H) (Value.slice none 0 0)).toArray 92 (0, 0))) (x : Ext w w') :
    BinAt w.heap.size w' p g W H (List.replicate (acr W * acr H) (.slice none 0 0, [])) 0 :=
  ⟨by rw [List.length_replicate]; exact hb, by rw [List.map_replicate]; exact hg, fun i x hx => by
    rw [(List.mem_replicate.1 (List.mem_of_getElem? hx)).2]
    exact ⟨World.ownsRow_nil _ _ _ _, by simp⟩, fun i j x y hx _ _ k hk => by
    rw [(List.mem_replicate.1 (List.mem_of_getElem? hx)).2] at hk
    simp [Value.ownBlock] at hk, by rw [List.length_replicate], x.size, by omega, h1⟩
/-- Tiles of added strokes. -/
structure Tls (W H : Nat) (L : List Sk) (T : List Tl) : Prop where
  s : skel T = L.foldl (addS W H) (List.replicate (acr W * acr H) [])
  l : T.length = acr W * acr H
  a : ∀ x ∈ T, x.2.length ≤ 10000
  b : ∀ x ∈ T, ∀ q ∈ x.2, q.1.vars.length ≤ 1000
theorem tls_of {W H : Nat} (hW : W ≤ 64) {L : List Sk} {T : List Tl} (hs : skel T = L.foldl (addS W H) (List.replicate (acr W * acr H) [])) (hl : L.length ≤ 1000) (hv : ∀ q ∈ L, q.vars.length ≤ 1000) : Tls W H L T := by
  have hlen : T.length = acr W * acr H := by
    have := congrArg List.length hs
    rw [addS_fold_len, List.length_replicate] at this
    unfold skel at this
    rwa [List.length_map] at this
  have key : ∀ x ∈ T, ∃ f : Sk → Bool, x.2.map (·.1) = L.filter f := fun x hx => by
    obtain ⟨i, hi, rfl⟩ := List.getElem_of_mem hx
    refine ⟨inT W H i, ?_⟩
    rw [← tl_getD T i (List.getElem?_eq_getElem hi), hs, addS_getD hW rfl L _ (by simp) i (by omega), List.getD_eq_getElem?_getD, List.getElem?_replicate, if_pos (by omega)]
    rfl
  refine ⟨hs, hlen, fun x hx => ?_, fun x hx q hq => ?_⟩
  · obtain ⟨f, hf⟩ := key x hx
    have := congrArg List.length hf
    rw [List.length_map] at this
    have := List.length_filter_le f L
    omega
  · obtain ⟨f, hf⟩ := key x hx
    have hm : q.1 ∈ L.filter f := by rw [← hf]; exact List.mem_map.2 ⟨q, hq, rfl⟩
    exact hv _ (List.mem_filter.1 hm).1
theorem skel_new (n : Nat) : skel (List.replicate n (.slice none 0 0, [])) = List.replicate n [] := by
  unfold skel
  rw [List.map_replicate]
  rfl
theorem add_fresh (base b2 : Nat) (p g W H : Nat) (v : Value) (L : List (Sk × Value)) (w : World) (hb : BinAt base w p g W H (List.replicate (acr W * acr H) (.slice none 0 0, [])) 0) (hW : W ≤ 64) (hH : H ≤ 64) (hL : SksMy b2 w v L) (hl : L.length ≤ 200) (hv : ∀ q ∈ L, q.1.vars.length ≤ 3) :
    Calls Try.prog 45 #[.pointer (some ⟨p, 0, none⟩), v] w fun e w' => e = .returned (.int .i64 0) ∧ ∃ T', BinAt base w' p g W H T' (cntS W H (L.map (·.1)) : Nat) ∧ Tls W H (L.map (·.1)) T' ∧ Chg [p, g] w w' := by
  refine (add_any base p g W H _ 0 v L w hb hW hH (SksMy.at hL) (fun q hq => by have := hv q hq; omega) (by omega) (fun k hk hm => ?_) (by omega) (fun x hx => by rw [(List.mem_replicate.1 hx).2]; exact Nat.zero_le _)).mono ?_
  · have hm2 : k = p ∨ k = g := by
      unfold binM at hm
      simp only [List.mem_cons, List.mem_filterMap] at hm
      rcases hm with h | h | ⟨x, hx, hk⟩
      · exact .inl h
      · exact .inr h
      · rw [(List.mem_replicate.1 hx).2] at hk
        simp [Value.ownBlock] at hk
    rcases hk with hk | ⟨q, hq, hk⟩
    · rcases hm2 with rfl | rfl
      · exact own_ne hL.1 hb.b (by decide) hk
      · exact own_ne hL.1 hb.r (by decide) hk
    · rcases hm2 with rfl | rfl
      · exact own_ne (hL.2 q hq) hb.b (by decide) hk
      · exact own_ne (hL.2 q hq) hb.r (by decide) hk
  · rintro e w' ⟨rfl, T', h1, h2, h3, _⟩
    refine ⟨rfl, T', by rw [Nat.zero_add] at h1; exact h1, tls_of hW (by rw [h2, skel_new]) (by rw [List.length_map]; omega) (fun q hq => by
      obtain ⟨r, hr, rfl⟩ := List.mem_map.1 hq
      have := hv r hr
      omega), h3.mono (fun k hk => ?_)⟩
    unfold binM at hk
    simp only [List.mem_cons, List.mem_filterMap] at hk ⊢
    rcases hk with h | h | ⟨x, hx, hk⟩
    · exact .inl h
    · exact .inr (.inl h)
    · rw [(List.mem_replicate.1 hx).2] at hk
      simp [Value.ownBlock] at hk
end Go.Proofs.Ytgdcdkajicgliaa
