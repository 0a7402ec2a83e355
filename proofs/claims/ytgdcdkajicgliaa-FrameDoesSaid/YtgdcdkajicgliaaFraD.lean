/- What is read. Conditions: each theorem's own premises. What laying, clearing and reading do to planes: plain laws, no program. Conditions: each theorem's own premises. What is read, pixel by pixel: plain laws. Conditions: each theorem's own premises. -/
import Derived.Test.YtgdcdkajicgliaaFra7
namespace Go.Proofs.Ytgdcdkajicgliaa
open Go.RowKit
set_option linter.unusedVariables false
set_option maxRecDepth 100000
set_option linter.unusedSimpArgs false

/-- Where a pixel lies among the bytes that are read. -/
def rdAt (x y w : Int) (q : Nat × Nat) : Nat := (4 * (((q.2 : Int) - y) * w + (q.1 : Int) - x)).toNat
def rdS (P : Pl) (x y w : Int) (o : List Int) (q : Nat × Nat) : List Int := splice o (rdAt x y w q) (lowB (packX 1 (cellV P (q.2 * P.W + q.1)).v.L) 4)
/-- The bytes after k pixels. -/
def rdk (P : Pl) (x y : Int) (w h : Nat) (k : Nat) : List Int := ((boxB ⟨x, y, w, h⟩ P.W P.H).take k).foldl (rdS P x y w) (List.replicate (4 * w * h) 0)
/-- What is read. -/
def rdV (P : Pl) (x y : Int) (w h : Nat) : List Int := (boxB ⟨x, y, w, h⟩ P.W P.H).foldl (rdS P x y w) (List.replicate (4 * w * h) 0)
theorem place_lt {x y W H : Nat} (hx : x < W) (hy : y < H) : y * W + x < W * H := by
  have := Nat.mul_le_mul_right W (show y + 1 ≤ H by omega)
  rw [Nat.succ_mul, Nat.mul_comm H] at this
  omega
theorem rdk_succ {P : Pl} {x y : Int} {w h k : Nat} {q : Nat × Nat} (hq : (boxB ⟨x, y, w, h⟩ P.W P.H)[k]? = some q) : rdk P x y w h (k + 1) = rdS P x y w (rdk P x y w h k) q := by
  unfold rdk
  rw [List.take_add_one, hq, List.foldl_append]
  rfl
theorem rdk_all (P : Pl) (x y : Int) (w h : Nat) : rdk P x y w h (boxB ⟨x, y, w, h⟩ P.W P.H).length = rdV P x y w h := by
  unfold rdk rdV
  rw [List.take_of_length_le (Nat.le_refl _)]
/-- What lies in a side of a box, in plain numbers. -/
theorem wi_in {i fr n : Int} (hi : 0 ≤ i ∧ i ≤ 64) (hf : -9223372036854775808 ≤ fr ∧ fr ≤ 9223372036854775807) (hn : 0 ≤ n ∧ n ≤ 9223372036854775807) : wiV i fr n = decide (fr ≤ i ∧ i - fr < n) := by
  unfold wiV ltU
  have e1 : IntKind.u64.wrap i = i % 18446744073709551616 := rfl
  have e2 : IntKind.u64.wrap fr = fr % 18446744073709551616 := rfl
  have e3 : IntKind.u64.wrap n = n % 18446744073709551616 := rfl
  have e4 : IntKind.u64.wrap (IntKind.u64.wrap i - IntKind.u64.wrap fr) = (IntKind.u64.wrap i - IntKind.u64.wrap fr) % 18446744073709551616 := rfl
  rw [e4, e1, e2, e3]
  rw [← Bool.decide_and, ← Bool.decide_and]
  apply decide_eq_decide.2
  omega
theorem rd_pos {x y : Int} {w h : Nat} {q : Nat × Nat} {W H : Nat} (hW : W ≤ 64) (hH : H ≤ 64) (hx : -9223372036854775808 ≤ x ∧ x ≤ 9223372036854775807) (hy : -9223372036854775808 ≤ y ∧ y ≤ 9223372036854775807) (hw : w ≤ 64) (hh : h ≤ 64) (hq : q ∈ boxB ⟨x, y, w, h⟩ W H) :
    x ≤ (q.1 : Int) ∧ (q.1 : Int) - x < w ∧ y ≤ (q.2 : Int) ∧ (q.2 : Int) - y < h ∧ rdAt x y w q + 4 ≤ 4 * w * h := by
  obtain ⟨h1, h2, h3⟩ := box_mem hq
  unfold inX at h3
  simp only [Bool.and_eq_true] at h3
  have a1 := h3.1
  have a2 := h3.2
  rw [wi_in (by omega) hx (by omega)] at a1
  rw [wi_in (by omega) hy (by omega)] at a2
  have a1 := of_decide_eq_true a1
  have a2 := of_decide_eq_true a2
  refine ⟨a1.1, a1.2, a2.1, a2.2, ?_⟩
  obtain ⟨r, hr⟩ : ∃ r : Nat, (q.2 : Int) - y = r := ⟨((q.2 : Int) - y).toNat, by omega⟩
  obtain ⟨c, hc⟩ : ∃ c : Nat, (q.1 : Int) - x = c := ⟨((q.1 : Int) - x).toNat, by omega⟩
  unfold rdAt
  have e : ((q.2 : Int) - y) * w + (q.1 : Int) - x = ((r * w + c : Nat) : Int) := by
    rw [hr, Int.natCast_add, Int.natCast_mul]
    omega
  rw [e]
  have h4 : r * w + c < h * w := by
    have := Nat.mul_le_mul_right w (show r + 1 ≤ h by omega)
    rw [Nat.succ_mul] at this
    omega
  have h5 : 4 * w * h = 4 * (h * w) := by rw [Nat.mul_assoc, Nat.mul_comm w h]
  omega
theorem rdk_len (P : Pl) (hW : P.W ≤ 64) (hH : P.H ≤ 64) {x y : Int} {w h : Nat} (hx : -9223372036854775808 ≤ x ∧ x ≤ 9223372036854775807) (hy : -9223372036854775808 ≤ y ∧ y ≤ 9223372036854775807) (hw : w ≤ 64) (hh : h ≤ 64) :
    ∀ k, k ≤ (boxB ⟨x, y, w, h⟩ P.W P.H).length → (rdk P x y w h k).length = 4 * w * h
  | 0, _ => by simp [rdk]
  | k + 1, hk => by
    obtain ⟨q, hq⟩ : ∃ q, (boxB ⟨x, y, w, h⟩ P.W P.H)[k]? = some q := ⟨_, List.getElem?_eq_getElem hk⟩
    rw [rdk_succ hq]
    have ih := rdk_len P hW hH hx hy hw hh k (by omega)
    have := rd_pos hW hH hx hy hw hh (List.mem_of_getElem? hq)
    unfold rdS
    rw [length_splice _ _ _ (by rw [lowB_length, ih]; omega)]
    exact ih
theorem rdk_wf (P : Pl) (x y : Int) (w h : Nat) : ∀ k, k ≤ (boxB ⟨x, y, w, h⟩ P.W P.H).length → ∀ z ∈ rdk P x y w h k, (Lit.int .u8 z).wf = true
  | 0, _ => by
    intro z hz
    simp only [rdk, List.take_zero, List.foldl_nil] at hz
    obtain ⟨_, rfl⟩ := List.mem_replicate.1 hz
    rfl
  | k + 1, hk => by
    obtain ⟨q, hq⟩ : ∃ q, (boxB ⟨x, y, w, h⟩ P.W P.H)[k]? = some q := ⟨_, List.getElem?_eq_getElem hk⟩
    rw [rdk_succ hq]
    have ih := rdk_wf P x y w h k (by omega)
    intro z hz
    unfold rdS splice at hz
    rcases List.mem_append.1 hz with h1 | h1
    · exact ih z (List.mem_of_mem_take h1)
    · rcases List.mem_append.1 h1 with h1 | h1
      · exact lowB_wf _ _ z h1
      · exact ih z (List.mem_of_mem_drop h1)
end Go.Proofs.Ytgdcdkajicgliaa
namespace Go.Proofs.Ytgdcdkajicgliaa
open Go.RowKit
set_option linter.unusedVariables false
set_option maxRecDepth 100000

/-- What a cell tells that was laid. -/
def pkC (P : Pl) (c : Ce) : Ce := ⟨unp4 P.F (leN (lowB (packX P.F c.v.L) (szN P.F))), if P.dep then numV (bitsV c.dep 16) 16 else 65536, if P.sten then c.sten % 256 else 0⟩
theorem splice_same {α : Type} (l m : List α) (p : Nat) (h : p + m.length ≤ l.length) : ((splice l p m).drop p).take m.length = m := by
  unfold splice
  rw [List.drop_append_of_le_length (by rw [List.length_take]; omega), List.drop_eq_nil_of_le (by rw [List.length_take]; omega), List.nil_append, List.take_append_of_le_length (Nat.le_refl _), List.take_length]
theorem splice_other {α : Type} (l m : List α) (p q S : Nat) (h : p + m.length ≤ l.length) (hq : q + S ≤ p ∨ p + m.length ≤ q) : ((splice l p m).drop q).take S = (l.drop q).take S := by
  apply List.ext_getElem?
  intro k
  rw [List.getElem?_take, List.getElem?_take]
  split
  · rename_i hk
    rw [List.getElem?_drop, List.getElem?_drop]
    unfold splice
    rcases hq with hq | hq
    · rw [List.getElem?_append_left (by rw [List.length_take]; omega), List.getElem?_take, if_pos (by omega)]
    · have e1 : (l.take p).length = p := by rw [List.length_take]; omega
      rw [List.getElem?_append_right (by rw [e1]; omega), e1, List.getElem?_append_right (by omega), List.getElem?_drop]
      congr 1
      omega
  · rfl
theorem colAt_lay {P : Pl} (h : P.Ok) {i j : Nat} (hi : i < P.W * P.H) (hj : j < P.W * P.H) (c : Ce) : colAt (layV P i c) j = if j = i then lowB (packX P.F c.v.L) (szN P.F) else colAt P j := by
  have hf := lay_fit h hi
  have hl := lowB_length (szN P.F) (packX P.F c.v.L)
  show ((splice P.col (i * szN P.F) (lowB (packX P.F c.v.L) (szN P.F))).drop (j * szN P.F)).take (szN P.F) = _
  by_cases e : j = i
  · subst e
    rw [if_pos rfl]
    have := splice_same P.col (lowB (packX P.F c.v.L) (szN P.F)) (j * szN P.F) (by rw [hl]; exact hf)
    rw [hl] at this
    exact this
  · rw [if_neg e]
    refine splice_other _ _ _ _ _ (by rw [hl]; exact hf) ?_
    rw [hl]
    rcases Nat.lt_or_gt_of_ne e with g | g
    · have := Nat.mul_le_mul_right (szN P.F) (show j + 1 ≤ i by omega)
      rw [Nat.succ_mul] at this
      exact .inl this
    · have := Nat.mul_le_mul_right (szN P.F) (show i + 1 ≤ j by omega)
      rw [Nat.succ_mul] at this
      exact .inr this
theorem cellV_lay {P : Pl} (h : P.Ok) {i j : Nat} (hi : i < P.W * P.H) (hj : j < P.W * P.H) (c : Ce) : cellV (layV P i c) j = if j = i then pkC P c else cellV P j := by
  have h1 := colAt_lay h hi hj c
  have hd := h.dz
  have hm := h.ms
  show (⟨unp4 P.F (leN (colAt (layV P i c) j)), if P.dep then numV ((if P.dep then P.dz.set i (bitsV c.dep 16) else P.dz).getD j 0) 16 else 65536, if P.sten then (if P.sten then P.ms.set i (c.sten % 256) else P.ms).getD j 0 else 0⟩ : Ce) = _
  rw [h1]
  by_cases e : j = i
  · subst e
    rw [if_pos rfl, if_pos rfl]
    unfold pkC
    congr 1
    · cases P.dep
      · rfl
      · simp only [if_true]
        rw [List.getD_eq_getElem?_getD, List.getElem?_set_self (by omega)]
        rfl
    · cases P.sten
      · rfl
      · simp only [if_true]
        rw [List.getD_eq_getElem?_getD, List.getElem?_set_self (by omega)]
        rfl
  · rw [if_neg e, if_neg e]
    unfold cellV
    congr 1
    · cases P.dep
      · rfl
      · simp only [if_true]
        rw [List.getD_eq_getElem?_getD, List.getElem?_set_ne (by omega), ← List.getD_eq_getElem?_getD]
    · cases P.sten
      · rfl
      · simp only [if_true]
        rw [List.getD_eq_getElem?_getD, List.getElem?_set_ne (by omega), ← List.getD_eq_getElem?_getD]
theorem pkC_lay (P : Pl) (i : Nat) (c d : Ce) : pkC (layV P i c) d = pkC P d := rfl
/-- A cell, turned where it lies. -/
def layF (f : Ce → Ce) (P : Pl) (i : Nat) : Pl := layV P i (f (cellV P i))
theorem fold_ok (f : Ce → Ce) : ∀ (L : List Nat) (P : Pl), P.Ok → (∀ i ∈ L, i < P.W * P.H) → (L.foldl (layF f) P).Ok
  | [], P, h, _ => h
  | i :: L, P, h, hL => fold_ok f L (layF f P i) (layV_ok h (hL i (by simp)) _) (fun k hk => hL k (by simp [hk]))
theorem fold_cell (f : Ce → Ce) : ∀ (L : List Nat) (P : Pl), P.Ok → L.Nodup → (∀ i ∈ L, i < P.W * P.H) → ∀ j, j < P.W * P.H → cellV (L.foldl (layF f) P) j = if j ∈ L then pkC P (f (cellV P j)) else cellV P j
  | [], P, h, _, _, j, hj => by simp
  | i :: L, P, h, hn, hL, j, hj => by
    have hi := hL i (by simp)
    have hn2 := List.nodup_cons.1 hn
    have hc := cellV_lay h hi hj (f (cellV P i))
    rw [List.foldl_cons, fold_cell f L (layF f P i) (layV_ok h hi _) hn2.2 (fun k hk => hL k (by simp [hk])) j hj]
    show (if j ∈ L then pkC (layV P i (f (cellV P i))) (f (cellV (layV P i (f (cellV P i))) j)) else cellV (layV P i (f (cellV P i))) j) = _
    rw [pkC_lay, hc]
    by_cases e : j = i
    · subst e
      rw [if_neg hn2.1, if_pos rfl, if_pos (by simp)]
    · rw [if_neg e]
      by_cases hm : j ∈ L
      · rw [if_pos hm, if_pos (by simp [hm])]
      · rw [if_neg hm, if_neg (by simp [hm, e])]
theorem mod_div {r c w : Nat} (hc : c < w) : (r * w + c) % w = c ∧ (r * w + c) / w = r := by
  constructor
  · rw [Nat.add_comm, Nat.add_mul_mod_self_right, Nat.mod_eq_of_lt hc]
  · rw [Nat.mul_comm, Nat.mul_add_div (by omega), Nat.div_eq_of_lt hc, Nat.add_zero]
/-- The places of a box's cells. -/
def boxI (b : Bx) (W H : Nat) : List Nat := (boxB b W H).map fun q => q.2 * W + q.1
theorem boxI_lt {b : Bx} {W H i : Nat} (h : i ∈ boxI b W H) : i < W * H := by
  obtain ⟨q, hq, rfl⟩ := List.mem_map.1 h
  obtain ⟨h1, h2, _⟩ := box_mem hq
  have := Nat.mul_le_mul_right W (show q.2 + 1 ≤ H by omega)
  rw [Nat.succ_mul, Nat.mul_comm H] at this
  omega
theorem boxI_mem {b : Bx} {W H i : Nat} (hi : i < W * H) (hW : 0 < W) : i ∈ boxI b W H ↔ inX b (i % W) (i / W) = true := by
  have hdm : i / W * W + i % W = i := by rw [Nat.mul_comm]; exact Nat.div_add_mod i W
  have hm := Nat.mod_lt i hW
  constructor
  · intro h
    obtain ⟨q, hq, rfl⟩ := List.mem_map.1 h
    obtain ⟨h1, h2, h3⟩ := box_mem hq
    rw [(mod_div h1).1, Nat.mul_comm q.2 W, Nat.mul_add_div hW, Nat.div_eq_of_lt h1, Nat.add_zero]
    exact h3
  · intro h
    refine List.mem_map.2 ⟨(i % W, i / W), ?_, hdm⟩
    refine List.mem_flatMap.2 ⟨i / W, List.mem_range.2 (Nat.div_lt_of_lt_mul hi), ?_⟩
    exact List.mem_map.2 ⟨i % W, List.mem_filter.2 ⟨List.mem_range.2 hm, h⟩, rfl⟩
theorem boxI_sorted (b : Bx) (W : Nat) : ∀ n, (boxI b W n).Pairwise (· < ·) ∧ ∀ i ∈ boxI b W n, i < n * W
  | 0 => ⟨by simp [boxI, boxB], by simp [boxI, boxB]⟩
  | n + 1 => by
    obtain ⟨h1, h2⟩ := boxI_sorted b W n
    have hr : ((boxR b n W).map fun q => q.2 * W + q.1).Pairwise (· < ·) ∧ ∀ i ∈ ((boxR b n W).map fun q => q.2 * W + q.1), n * W ≤ i ∧ i < (n + 1) * W := by
      unfold boxR
      rw [List.map_map]
      refine ⟨?_, ?_⟩
      · rw [List.pairwise_map]
        refine List.Pairwise.imp ?_ (List.Pairwise.filter _ (List.pairwise_lt_range))
        intro x y hxy
        show n * W + x < n * W + y
        omega
      · intro i hi
        obtain ⟨x, hx, rfl⟩ := List.mem_map.1 hi
        have := List.mem_range.1 (List.mem_filter.1 hx).1
        rw [Nat.succ_mul]
        show n * W ≤ n * W + x ∧ n * W + x < n * W + W
        omega
    have e : boxI b W (n + 1) = boxI b W n ++ (boxR b n W).map fun q => q.2 * W + q.1 := by
      unfold boxI
      rw [boxB_succ, List.map_append]
    rw [e]
    refine ⟨List.pairwise_append.2 ⟨h1, hr.1, fun x hx y hy => ?_⟩, fun i hi => ?_⟩
    · have := h2 x hx
      have := (hr.2 y hy).1
      omega
    · rcases List.mem_append.1 hi with hi | hi
      · have := h2 i hi
        rw [Nat.succ_mul]
        omega
      · exact (hr.2 i hi).2
theorem boxI_nodup (b : Bx) (W H : Nat) : (boxI b W H).Nodup := List.Pairwise.imp (fun h => by omega) (boxI_sorted b W H).1
theorem clr_fold (s : St) (what : Nat) (color : V4) (dep sten : Int) : ∀ (L : List (Nat × Nat)) (P : Pl) (W : Nat), P.W = W → L.foldl (clrS s what color dep sten) P = (L.map fun q => q.2 * W + q.1).foldl (layF (clrC s what color dep sten)) P
  | [], P, W, h => rfl
  | q :: L, P, W, h => by
    rw [List.foldl_cons, List.map_cons, List.foldl_cons, clr_fold s what color dep sten L _ W (show (clrS s what color dep sten P q).W = W from h)]
    subst h
    rfl
theorem clrV_eq (s : St) (what : Nat) (color : V4) (dep sten : Int) (P : Pl) : clrV s what color dep sten P = (boxI (clrX s P) P.W P.H).foldl (layF (clrC s what color dep sten)) P :=
  clr_fold s what color dep sten _ P P.W rfl
theorem clrV_ok (s : St) (what : Nat) (color : V4) (dep sten : Int) {P : Pl} (h : P.Ok) : (clrV s what color dep sten P).Ok := by
  rw [clrV_eq]
  exact fold_ok _ _ _ h (fun i hi => boxI_lt hi)
theorem clrV_cell (s : St) (what : Nat) (color : V4) (dep sten : Int) {P : Pl} (h : P.Ok) {j : Nat} (hj : j < P.W * P.H) : cellV (clrV s what color dep sten P) j = if inX (clrX s P) (j % P.W) (j / P.W) = true then pkC P (clrC s what color dep sten (cellV P j)) else cellV P j := by
  rw [clrV_eq, fold_cell _ _ _ h (boxI_nodup _ _ _) (fun i hi => boxI_lt hi) j hj]
  have hm := boxI_mem (b := clrX s P) hj h.w1
  by_cases e : inX (clrX s P) (j % P.W) (j / P.W) = true
  · rw [if_pos e, if_pos (hm.2 e)]
  · rw [if_neg e, if_neg (fun hh => e (hm.1 hh))]
theorem clrV_dim (s : St) (what : Nat) (color : V4) (dep sten : Int) (P : Pl) : (clrV s what color dep sten P).W = P.W ∧ (clrV s what color dep sten P).H = P.H ∧ (clrV s what color dep sten P).F = P.F ∧ (clrV s what color dep sten P).dep = P.dep ∧ (clrV s what color dep sten P).sten = P.sten := fold_dim s what color dep sten _ P
end Go.Proofs.Ytgdcdkajicgliaa
namespace Go.Proofs.Ytgdcdkajicgliaa
open Go.RowKit
set_option linter.unusedVariables false
set_option maxRecDepth 100000

theorem fold_chunk {β : Type} (f : β → Nat) (v : β → List Int) (S : Nat) (hv : ∀ q, (v q).length = S) : ∀ (L : List β) (o : List Int), (∀ q ∈ L, f q * S + S ≤ o.length) → L.Nodup → (∀ q ∈ L, ∀ p ∈ L, f q = f p → q = p) →
    (L.foldl (fun o q => splice o (f q * S) (v q)) o).length = o.length ∧ (∀ q ∈ L, ((L.foldl (fun o q => splice o (f q * S) (v q)) o).drop (f q * S)).take S = v q) ∧ (∀ n, (∀ q ∈ L, f q ≠ n) → ((L.foldl (fun o q => splice o (f q * S) (v q)) o).drop (n * S)).take S = (o.drop (n * S)).take S)
  | [], o, _, _, _ => ⟨rfl, by simp, fun _ _ => rfl⟩
  | q :: L, o, hL, hn, hi => by
    have hq := hL q (by simp)
    have hn2 := List.nodup_cons.1 hn
    have hl : (splice o (f q * S) (v q)).length = o.length := length_splice _ _ _ (by rw [hv]; exact hq)
    obtain ⟨h0, h1, h2⟩ := fold_chunk f v S hv L (splice o (f q * S) (v q)) (fun p hp => by rw [hl]; exact hL p (by simp [hp])) hn2.2 (fun a ha b hb => hi a (by simp [ha]) b (by simp [hb]))
    have hoff : ∀ n, n ≠ f q → ((splice o (f q * S) (v q)).drop (n * S)).take S = (o.drop (n * S)).take S := fun n hne => by
      refine splice_other _ _ _ _ _ (by rw [hv]; exact hq) ?_
      rw [hv]
      rcases Nat.lt_or_gt_of_ne hne with g | g
      · have := Nat.mul_le_mul_right S (show n + 1 ≤ f q by omega)
        rw [Nat.succ_mul] at this
        exact .inl this
      · have := Nat.mul_le_mul_right S (show f q + 1 ≤ n by omega)
        rw [Nat.succ_mul] at this
        exact .inr this
    refine ⟨h0.trans hl, fun p hp => ?_, fun n hne => ?_⟩
    · rcases List.mem_cons.1 hp with rfl | hp
      · refine (h2 (f p) (fun a ha e => hn2.1 ?_)).trans ?_
        · have := hi a (by simp [ha]) p (by simp) e
          rwa [← this]
        · have := splice_same o (v p) (f p * S) (by rw [hv]; exact hq)
          rwa [hv] at this
      · exact h1 p hp
    · exact (h2 n (fun a ha => hne a (by simp [ha]))).trans (hoff n (fun e => hne q (by simp) e.symm))
theorem chunks {S : Nat} (g : Nat → List Int) : ∀ (N : Nat) (l : List Int), l.length = N * S → (∀ n, n < N → (l.drop (n * S)).take S = g n) → l = (List.range N).flatMap g
  | 0, l, hl, _ => by
    rw [Nat.zero_mul] at hl
    rw [List.eq_nil_of_length_eq_zero hl]
    rfl
  | N + 1, l, hl, h => by
    rw [Nat.succ_mul] at hl
    have ih := chunks (S := S) g N (l.take (N * S)) (by rw [List.length_take]; omega) (fun n hn => by
      have := Nat.mul_le_mul_right S (show n + 1 ≤ N by omega)
      rw [Nat.succ_mul] at this
      have hm : min S (N * S - n * S) = S := Nat.min_eq_left (by omega)
      rw [← h n (by omega), List.drop_take, List.take_take, hm])
    rw [List.range_succ, List.flatMap_append, ← ih, List.flatMap_cons, List.flatMap_nil, List.append_nil, ← h N (by omega), List.take_of_length_le (l := l.drop (N * S)) (by rw [List.length_drop]; omega), List.take_append_drop]
/-- A pixel's bytes. -/
def grp (P : Pl) (x y : Int) (w : Nat) (n : Nat) : List Int := if inP P.W P.H (x + ((n % w : Nat) : Int)) (y + ((n / w : Nat) : Int)) = true then lowB (packX 1 (cellV P ((y + ((n / w : Nat) : Int)).toNat * P.W + (x + ((n % w : Nat) : Int)).toNat)).v.L) 4 else [0, 0, 0, 0]
theorem rdAt_nat {x y : Int} {w : Nat} {q : Nat × Nat} (r c : Nat) (hr : (q.2 : Int) - y = r) (hc : (q.1 : Int) - x = c) : rdAt x y w q = (r * w + c) * 4 := by
  unfold rdAt
  have e : ((q.2 : Int) - y) * w + (q.1 : Int) - x = ((r * w + c : Nat) : Int) := by
    rw [hr, Int.natCast_add, Int.natCast_mul]
    omega
  rw [e]
  omega
/-- A pixel's place among the pixels. -/
def rdI (x y : Int) (w : Nat) (q : Nat × Nat) : Nat := ((q.2 : Int) - y).toNat * w + ((q.1 : Int) - x).toNat
theorem foldl_same {α β : Type} (f g : α → β → α) : ∀ (L : List β) (a : α), (∀ a, ∀ q ∈ L, f a q = g a q) → L.foldl f a = L.foldl g a
  | [], a, _ => rfl
  | q :: L, a, h => by
    rw [List.foldl_cons, List.foldl_cons, h a q (by simp)]
    exact foldl_same f g L _ (fun a p hp => h a p (by simp [hp]))
theorem zeros_chunk (N S n : Nat) (hn : n * S + S ≤ N) : ((List.replicate N (0 : Int)).drop (n * S)).take S = List.replicate S 0 := by
  rw [List.drop_replicate, List.take_replicate, Nat.min_eq_left (by omega)]
theorem rdV_eq {P : Pl} (hP : P.Ok) {x y : Int} {w h : Nat} (hx : -9223372036854775808 ≤ x ∧ x ≤ 9223372036854775807) (hy : -9223372036854775808 ≤ y ∧ y ≤ 9223372036854775807) (hw : w ≤ 64) (hh : h ≤ 64) :
    rdV P x y w h = (List.range (w * h)).flatMap (grp P x y w) ∧ (rdV P x y w h).length = 4 * w * h := by
  have hpos : ∀ q ∈ boxB ⟨x, y, w, h⟩ P.W P.H, ∃ r c : Nat, (q.2 : Int) - y = r ∧ (q.1 : Int) - x = c ∧ r < h ∧ c < w ∧ q.1 < P.W ∧ q.2 < P.H := fun q hq => by
    obtain ⟨h1, h2, h3, h4, _⟩ := rd_pos hP.w2 hP.h2 hx hy hw hh hq
    obtain ⟨h5, h6, _⟩ := box_mem hq
    exact ⟨((q.2 : Int) - y).toNat, ((q.1 : Int) - x).toNat, by omega, by omega, by omega, by omega, h5, h6⟩
  have hfold : rdV P x y w h = (boxB ⟨x, y, w, h⟩ P.W P.H).foldl (fun o q => splice o (rdI x y w q * 4) (lowB (packX 1 (cellV P (q.2 * P.W + q.1)).v.L) 4)) (List.replicate (4 * w * h) 0) := by
    unfold rdV
    refine foldl_same _ _ _ _ fun o q hq => ?_
    obtain ⟨r, c, hr, hc, _⟩ := hpos q hq
    unfold rdS
    rw [rdAt_nat r c hr hc]
    unfold rdI
    rw [hr, hc]
    rfl
  have hwh : 4 * w * h = w * h * 4 := by rw [Nat.mul_assoc, Nat.mul_comm]
  have hI : ∀ q ∈ boxB ⟨x, y, w, h⟩ P.W P.H, ∃ r c : Nat, (q.2 : Int) - y = r ∧ (q.1 : Int) - x = c ∧ r < h ∧ c < w ∧ rdI x y w q = r * w + c ∧ q.1 < P.W ∧ q.2 < P.H := fun q hq => by
    obtain ⟨r, c, hr, hc, h1, h2, h3, h4⟩ := hpos q hq
    refine ⟨r, c, hr, hc, h1, h2, ?_, h3, h4⟩
    unfold rdI
    rw [hr, hc]
    rfl
  have hlt : ∀ r c : Nat, r < h → c < w → r * w + c < w * h := fun r c hr hc => place_lt hc hr
  have hnd : (boxB ⟨x, y, w, h⟩ P.W P.H).Nodup := List.Pairwise.of_map _ (fun a b hab e => hab (by rw [e])) (boxI_nodup ⟨x, y, w, h⟩ P.W P.H)
  obtain ⟨h0, h1, h2⟩ := fold_chunk (rdI x y w) (fun q => lowB (packX 1 (cellV P (q.2 * P.W + q.1)).v.L) 4) 4 (fun q => lowB_length _ _) (boxB ⟨x, y, w, h⟩ P.W P.H) (List.replicate (4 * w * h) 0)
    (fun q hq => by
      obtain ⟨r, c, _, _, hr, hc, e, _⟩ := hI q hq
      have := hlt r c hr hc
      rw [List.length_replicate, e, hwh]
      omega) hnd
    (fun a ha b hb e => by
      obtain ⟨r, c, e1, e2, hr, hc, e3, _⟩ := hI a ha
      obtain ⟨r', c', e1', e2', hr', hc', e3', _⟩ := hI b hb
      rw [e3, e3'] at e
      have m1 := mod_div (r := r) hc
      have m2 := mod_div (r := r') hc'
      rw [e] at m1
      have : c = c' := m1.1.symm.trans m2.1
      have : r = r' := m1.2.symm.trans m2.2
      exact Prod.ext (by omega) (by omega))
  rw [← hfold] at h0 h1 h2
  rw [List.length_replicate] at h0
  refine ⟨chunks (S := 4) _ _ _ (by rw [h0, hwh]) (fun n hn => ?_), h0⟩
  have hw0 : 0 < w := by
    rcases Nat.eq_zero_or_pos w with e | e
    · subst e; rw [Nat.zero_mul] at hn; omega
    · exact e
  have hdm : n / w * w + n % w = n := by rw [Nat.mul_comm]; exact Nat.div_add_mod n w
  have hm := Nat.mod_lt n hw0
  have hd : n / w < h := Nat.div_lt_of_lt_mul hn
  unfold grp
  generalize n / w = a at *
  generalize n % w = b at *
  cases hin : inP P.W P.H (x + (b : Int)) (y + (a : Int))
  · rw [if_neg (by simp), h2 n (fun q hq e => ?_), zeros_chunk _ _ _ (by omega)]
    · rfl
    · obtain ⟨r, c, e1, e2, hr, hc, e3, hqW, hqH⟩ := hI q hq
      rw [e3] at e
      obtain ⟨m1, m2⟩ := mod_div (r := r) hc
      rw [e] at m1 m2
      obtain ⟨m3, m4⟩ := mod_div (r := a) hm
      rw [hdm] at m3 m4
      obtain rfl : b = c := m3.symm.trans m1
      obtain rfl : a = r := m4.symm.trans m2
      unfold inP at hin
      rw [decide_eq_true (show 0 ≤ x + (b : Int) by omega), decide_eq_true (show 0 ≤ y + (a : Int) by omega), decide_eq_true (show x + (b : Int) < P.W by omega), decide_eq_true (show y + (a : Int) < P.H by omega)] at hin
      cases hin
  · obtain ⟨i1, i2, i3, i4⟩ := inP_true hin
    rw [if_pos rfl]
    have hmem : ((x + (b : Int)).toNat, (y + (a : Int)).toNat) ∈ boxB ⟨x, y, w, h⟩ P.W P.H := by
      refine List.mem_flatMap.2 ⟨(y + (a : Int)).toNat, List.mem_range.2 (by omega), ?_⟩
      refine List.mem_map.2 ⟨(x + (b : Int)).toNat, List.mem_filter.2 ⟨List.mem_range.2 (by omega), ?_⟩, rfl⟩
      unfold inX
      have hW := hP.w2
      have hH := hP.h2
      rw [wi_in (by omega) hx (show 0 ≤ (w : Int) ∧ (w : Int) ≤ 9223372036854775807 by omega), wi_in (by omega) hy (show 0 ≤ (h : Int) ∧ (h : Int) ≤ 9223372036854775807 by omega), Bool.and_eq_true]
      refine ⟨decide_eq_true ?_, decide_eq_true ?_⟩
      · show x ≤ ((x + (b : Int)).toNat : Int) ∧ ((x + (b : Int)).toNat : Int) - x < (w : Int)
        omega
      · show y ≤ ((y + (a : Int)).toNat : Int) ∧ ((y + (a : Int)).toNat : Int) - y < (h : Int)
        omega
    have e : rdI x y w ((x + (b : Int)).toNat, (y + (a : Int)).toNat) = n := by
      unfold rdI
      have e1 : ((((y + (a : Int)).toNat : Nat) : Int) - y).toNat = a := by omega
      have e2 : ((((x + (b : Int)).toNat : Nat) : Int) - x).toNat = b := by omega
      show ((((y + (a : Int)).toNat : Nat) : Int) - y).toNat * w + ((((x + (b : Int)).toNat : Nat) : Int) - x).toNat = n
      rw [e1, e2, hdm]
    have := h1 _ hmem
    rw [e] at this
    exact this
end Go.Proofs.Ytgdcdkajicgliaa
