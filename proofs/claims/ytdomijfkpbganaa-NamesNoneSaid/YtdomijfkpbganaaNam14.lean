/- All's contract; plain laws of the objects in order. Conditions: each theorem's own premises. -/
import Derived.Test.YtdomijfkpbganaaNam13
namespace Go.Proofs.Ytdomijfkpbganaa
open Go.RowKit
set_option linter.unusedVariables false

set_option maxRecDepth 100000 in
theorem all_any (p : Nat) (st : List Int) (bd : Int) (w : World) (h : NmAt w p st bd) : Calls Try.prog 22 #[.pointer (some ⟨p, 0, none⟩)] w fun e w' =>
    ∃ q, e = .returned (.func (.func 28) #[] #[.pointer (some ⟨q, 0, none⟩)]) ∧ w.heap.size ≤ q ∧ NmAt w' q st bd ∧ Ext w w' := by
  have hz := zero_names
  have H := Lib.hid h
  have hlt := h.lt
  generalize hC : nmCells st bd = C at *
  have HC := Lib.hid hC
  have hh := h.1
  rw [hC] at hh
  have hsz := Lib.hid (show (Try.prog.info? 53).map (·.size) = some C.size by rw [info_names, ← hC, nmCells_size h.2])
  have hone := Lib.hid (show C.all (·.oneCell') = true by rw [← hC]; exact nmCells_one)
  have hl := Lib.hid (show C.size = nm0.size by rw [← hC, nmCells_size h.2, nm0_size])
  have HH := Lib.hid ((Ext.refl w |>.alloc (.cells nm0 53)).heap hh)
  clear h hC hh
  go_enter Try.func22, Try.ntmps22
  go_wp2_with (first | (refine wpList_load_whole rfl 53 _ rfl p rfl C 53 HH.out _ Try.underlying53 rfl hsz.out ?_) | (refine wpList_store_whole rfl 53 _ _ rfl w.heap.size C rfl rfl nm0 53 (heap_alloc_new _ _) hl.out hsz.out hone.out ?_; intro w2 hw2 hc2))
  go_ret
  exact ⟨_, rfl, Nat.le_refl _, ⟨by rw [HC.out]; exact hw2, H.out.2⟩, ((Ext.refl _).alloc _).chgTrans hc2 (by simp)⟩
theorem all_nil (w : World) : Calls Try.prog 22 #[.pointer none] w fun e w' =>
    ∃ q, e = .returned (.func (.func 28) #[] #[.pointer (some ⟨q, 0, none⟩)]) ∧ w.heap.size ≤ q ∧ NmAt w' q (List.replicate 65 0) 0 ∧ Ext w w' := by
  have hz := zero_names
  go_enter Try.func22, Try.ntmps22
  go_wp2
  go_ret
  exact ⟨_, rfl, Nat.le_refl _, ⟨heap_alloc_new _ _, rfl⟩, (Ext.refl _).alloc _⟩

/-- Name 0 is no object. -/
def Z0 (st : List Int) : Prop := st.getD 0 0 = 0
theorem Z0.zero : Z0 (List.replicate 65 0) := rfl
theorem Z0.set {st : List Int} (h : Z0 st) (i : Nat) (x : Int) (hi : i ≠ 0) : Z0 (st.set i x) := by
  unfold Z0 at *
  rw [List.getD_eq_getElem?_getD, List.getElem?_set_ne hi, ← List.getD_eq_getElem?_getD, h]
theorem Z0.op {st : List Int} (h : Z0 st) (bd : Int) (o : Int × Int) : Z0 (opR st bd o).1 := by
  have hn : ∀ i : Int, isName i = true → i.toNat ≠ 0 := fun i hi => by simp [isName] at hi; omega
  unfold opR genR bindR delR
  repeat' split
  all_goals first
    | exact h
    | exact h.set _ _ (hn _ ‹_›)
    | (show Z0 _
       unfold Z0
       rw [markL_getD _ _ 0 (fun hm => by
         have h1 := List.mem_of_mem_take hm
         unfold freeL at h1
         have h2 := (List.mem_filter.1 h1).1
         rw [List.mem_range'_1] at h2
         omega)]
       exact h)

/-- The object that came last, k objects having come. -/
def lastO (st : List Int) (k : Nat) : Nat := if k = 0 then 0 else (objs st 65).getD (k - 1) 0
theorem objs_mem (st : List Int) (m : Nat) : m ∈ objs st 65 ↔ m < 65 ∧ st.getD m 0 = 2 := by
  unfold objs
  rw [List.mem_filter, List.mem_range, beq_iff_eq]
theorem objs_lt (st : List Int) (i j : Nat) (hij : i < j) (hj : j < (objs st 65).length) : (objs st 65).getD i 0 < (objs st 65).getD j 0 := by
  have hp : (objs st 65).Pairwise (· < ·) := List.Pairwise.filter _ List.pairwise_lt_range
  have := List.pairwise_iff_getElem.1 hp i j (by omega) hj hij
  rw [List.getD_eq_getElem?_getD, List.getD_eq_getElem?_getD, List.getElem?_eq_getElem hj, List.getElem?_eq_getElem (show i < (objs st 65).length by omega)]
  exact this
theorem objs_is (st : List Int) (k : Nat) (hk : k < (objs st 65).length) : (objs st 65).getD k 0 < 65 ∧ st.getD ((objs st 65).getD k 0) 0 = 2 := by
  have : (objs st 65).getD k 0 ∈ objs st 65 := by
    rw [List.getD_eq_getElem?_getD, List.getElem?_eq_getElem hk]
    exact List.getElem_mem hk
  exact (objs_mem st _).1 this
theorem objs_idx (st : List Int) (m : Nat) (h1 : m < 65) (h2 : st.getD m 0 = 2) : ∃ i, i < (objs st 65).length ∧ (objs st 65).getD i 0 = m := by
  obtain ⟨i, hi, he⟩ := List.getElem_of_mem ((objs_mem st m).2 ⟨h1, h2⟩)
  exact ⟨i, hi, by rw [List.getD_eq_getElem?_getD, List.getElem?_eq_getElem hi]; exact he⟩
theorem last_lt {st : List Int} (h0 : Z0 st) (k : Nat) (hk : k < (objs st 65).length) : lastO st k < (objs st 65).getD k 0 := by
  unfold lastO
  split
  · have := (objs_is st k hk).2
    rcases Nat.eq_zero_or_pos ((objs st 65).getD k 0) with hz | hz
    · rw [hz] at this; unfold Z0 at h0; rw [h0] at this; cases this
    · exact hz
  · exact objs_lt st _ _ (by omega) hk
theorem last_gap (st : List Int) (k m : Nat) (hk : k ≤ (objs st 65).length) (h1 : lastO st k < m) (h2 : m < 65) (h3 : k < (objs st 65).length → m < (objs st 65).getD k 0) : (st.getD m 0 == 2) = false := by
  cases hq : st.getD m 0 == 2 with
  | false => rfl
  | true =>
    obtain ⟨i, hi, he⟩ := objs_idx st m h2 (by simpa using hq)
    exfalso
    unfold lastO at h1
    rcases Nat.lt_trichotomy i k with hik | rfl | hik
    · rw [if_neg (by omega)] at h1
      rcases Nat.lt_or_ge i (k - 1) with hi2 | hi2
      · have := objs_lt st i (k - 1) hi2 (by omega)
        omega
      · obtain rfl : i = k - 1 := by omega
        omega
    · have := h3 hi; omega
    · have := objs_lt st k i hik hi
      have := h3 (by omega)
      omega
theorem last_succ (st : List Int) (k : Nat) : lastO st (k + 1) = (objs st 65).getD k 0 := by unfold lastO; rw [if_neg (by omega)]; rfl

theorem func_nil (f : Fn) (fi ca : Array Value) (w : World) : (binOp BinOp.eql 48 (Value.func f fi ca) Value.nilFunc).run Try.prog w = .ok (.bool false) w := rfl
/-- A return behind loops over functions. -/
theorem retM {P : Program} {fn : Func} {R : Ending → World → Prop} {B : Nat} {tmps : Array Value} {ds : List Deferred} {W : World} (hm : Marks B W ds)
    (h : ∀ W', Turn B W W' → ∃ v, (results fn tmps).run P W' = .ok v W' ∧ R (.returned v) W') : bodyPostM Fence.wide 9 P fn R .ret { tmps := tmps, defers := ds } W := leaves_marks ds W hm h
end Go.Proofs.Ytdomijfkpbganaa
