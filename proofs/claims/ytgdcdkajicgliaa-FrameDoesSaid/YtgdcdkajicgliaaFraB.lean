/- What was told of a cell, laid again: plain laws; bytes.Equal of equal bytes; a list of calls. Conditions: each theorem's own premises. -/
import Derived.Test.YtgdcdkajicgliaaFraX
import Derived.Laws.BytesArg
namespace Go.Proofs.Ytgdcdkajicgliaa
open Go.RowKit
set_option linter.unusedVariables false
set_option maxRecDepth 100000
set_option linter.unusedSimpArgs false

theorem bits_num (a : Int) (m : Nat) (h1 : 1 ≤ m) (h2 : m ≤ 16) (h0 : 0 ≤ a) (ha : a < 2 ^ m) : bitsV (numV a m) m = a := by
  have hb := num_bd a m h0 ha h1 h2
  have hp := pow_bd m h1 h2
  have hcl : clP (numV a m) = numV a m := by unfold clP; rw [if_neg (by omega), if_neg (by omega)]
  unfold bitsV
  rw [hcl]
  have hn : numV a m = (a * 65536 + (2 ^ m - 1) / 2) / (2 ^ m - 1) := rfl
  rw [hn]
  generalize (2 : Int) ^ m = P at *
  have e1 := Int.emod_add_mul_ediv (a * 65536 + (P - 1) / 2) (P - 1)
  have e2 := Int.emod_nonneg (a * 65536 + (P - 1) / 2) (show P - 1 ≠ 0 by omega)
  have e3 := Int.emod_lt_of_pos (a * 65536 + (P - 1) / 2) (show 0 < P - 1 by omega)
  rw [Int.mul_comm ((a * 65536 + (P - 1) / 2) / (P - 1))]
  generalize (P - 1) * ((a * 65536 + (P - 1) / 2) / (P - 1)) = M at *
  generalize (a * 65536 + (P - 1) / 2) % (P - 1) = R at *
  omega

theorem mod_pow (X : Int) (b : Nat) : 0 ≤ X % 2 ^ b ∧ X % 2 ^ b < 2 ^ b :=
  ⟨Int.emod_nonneg _ (by have : (0 : Int) < 2 ^ b := Int.pow_pos (by decide); omega), Int.emod_lt_of_pos _ (Int.pow_pos (by decide))⟩

theorem bnum (X : Int) (b : Nat) (h1 : 1 ≤ b) (h2 : b ≤ 16) : bitsV (numV (X % 2 ^ b) b) b = X % 2 ^ b := bits_num _ b h1 h2 (mod_pow X b).1 (mod_pow X b).2

theorem unp_1 (X : Int) : unpV 1 X = [numV (X / 2 ^ 0 % 2 ^ 8) 8, numV (X / 2 ^ 8 % 2 ^ 8) 8, numV (X / 2 ^ 16 % 2 ^ 8) 8, numV (X / 2 ^ 24 % 2 ^ 8) 8] := rfl

theorem packunp_1 (X : Int) (h0 : 0 ≤ X) (h1 : X < 256 ^ szN 1) : packX 1 (unpV 1 X) = X := by
  have hp : (256 : Int) ^ szN 1 = 4294967296 := by decide
  rw [hp] at h1
  rw [unp_1]
  simp only [packX, List.getD_cons_zero, List.getD_cons_succ]
  rw [bnum (X / 2 ^ 0) 8 (by decide) (by decide), bnum (X / 2 ^ 8) 8 (by decide) (by decide), bnum (X / 2 ^ 16) 8 (by decide) (by decide), bnum (X / 2 ^ 24) 8 (by decide) (by decide)]
  omega

theorem unp_2 (X : Int) : unpV 2 X = [numV (X / 2 ^ 11 % 2 ^ 5) 5, numV (X / 2 ^ 5 % 2 ^ 6) 6, numV (X / 2 ^ 0 % 2 ^ 5) 5, 65536] := rfl

theorem packunp_2 (X : Int) (h0 : 0 ≤ X) (h1 : X < 256 ^ szN 2) : packX 2 (unpV 2 X) = X := by
  have hp : (256 : Int) ^ szN 2 = 65536 := by decide
  rw [hp] at h1
  rw [unp_2]
  simp only [packX, List.getD_cons_zero, List.getD_cons_succ]
  rw [bnum (X / 2 ^ 11) 5 (by decide) (by decide), bnum (X / 2 ^ 5) 6 (by decide) (by decide), bnum (X / 2 ^ 0) 5 (by decide) (by decide)]
  omega

theorem unp_3 (X : Int) : unpV 3 X = [numV (X / 2 ^ 12 % 2 ^ 4) 4, numV (X / 2 ^ 8 % 2 ^ 4) 4, numV (X / 2 ^ 4 % 2 ^ 4) 4, numV (X / 2 ^ 0 % 2 ^ 4) 4] := rfl

theorem packunp_3 (X : Int) (h0 : 0 ≤ X) (h1 : X < 256 ^ szN 3) : packX 3 (unpV 3 X) = X := by
  have hp : (256 : Int) ^ szN 3 = 65536 := by decide
  rw [hp] at h1
  rw [unp_3]
  simp only [packX, List.getD_cons_zero, List.getD_cons_succ]
  rw [bnum (X / 2 ^ 12) 4 (by decide) (by decide), bnum (X / 2 ^ 8) 4 (by decide) (by decide), bnum (X / 2 ^ 4) 4 (by decide) (by decide), bnum (X / 2 ^ 0) 4 (by decide) (by decide)]
  omega

theorem unp_4 (X : Int) : unpV 4 X = [numV (X / 2 ^ 11 % 2 ^ 5) 5, numV (X / 2 ^ 6 % 2 ^ 5) 5, numV (X / 2 ^ 1 % 2 ^ 5) 5, numV (X / 2 ^ 0 % 2 ^ 1) 1] := rfl

theorem packunp_4 (X : Int) (h0 : 0 ≤ X) (h1 : X < 256 ^ szN 4) : packX 4 (unpV 4 X) = X := by
  have hp : (256 : Int) ^ szN 4 = 65536 := by decide
  rw [hp] at h1
  rw [unp_4]
  simp only [packX, List.getD_cons_zero, List.getD_cons_succ]
  rw [bnum (X / 2 ^ 11) 5 (by decide) (by decide), bnum (X / 2 ^ 6) 5 (by decide) (by decide), bnum (X / 2 ^ 1) 5 (by decide) (by decide), bnum (X / 2 ^ 0) 1 (by decide) (by decide)]
  omega

theorem lowB_leN : ∀ (l : List Int), (∀ z ∈ l, 0 ≤ z ∧ z < 256) → lowB (leN l) l.length = l
  | [], _ => rfl
  | b :: l, h => by
    have hb := h b (by simp)
    have := leN_bound l fun z hz => h z (by simp [hz])
    simp only [leN, List.length_cons, lowB]
    rw [show (b + 256 * leN l) % 256 = b by omega, show (b + 256 * leN l) / 256 = leN l by omega, lowB_leN l fun z hz => h z (by simp [hz])]

theorem conv_ints {w : World} {v : Value} {zs : List Int} (h : Ints .u8 w v zs) : (convert 48 9 v).run Try.prog w = .ok (.string (strOfNums zs)) w := by
  obtain ⟨a, cap, rfl⟩ : ∃ a cap, v = .slice a zs.length cap := by obtain ⟨⟨_, a, cap, rfl, _⟩, _⟩ := h; exact ⟨a, cap, rfl⟩
  by_cases h0 : 0 < zs.length
  · obtain ⟨b, off, rfl, _, hc⟩ := h.pos h0
    exact run_convert_bytes_arg w 48 5 Try.underlying48 Try.underlying5 b off zs.length cap zs rfl hc 9 Try.underlying9
  · have : zs = [] := List.eq_nil_of_length_eq_zero (by omega)
    subst this
    show (convert 48 9 (.slice a 0 cap)).run Try.prog w = _
    rw [run_convert_bytes_string w 48 9 5 a 0 cap Try.underlying48 Try.underlying5 Try.underlying9]
    cases a with
    | none => simp [Conv.bytesToString, strOfNums]; rfl
    | some x => simp [Conv.bytesToString, strOfNums, loadCells, loadCellsFrom]; rfl

theorem equal_any (v u : Value) (zs : List Int) (w : World) (h : Ints .u8 w v zs) (k : Ints .u8 w u zs) : Calls Try.prog 21 #[v, u] w fun e w' => e = .returned (.bool true) ∧ w = w' := by
  have h1 := conv_ints h
  have k1 := conv_ints k
  go_enter Try.func21, Try.ntmps21
  go_wp2
  go_ret
  exact ⟨by simp, rfl⟩

theorem chunk_back4 (n : Nat) (l : List Int) (h1 : 1 ≤ n) (h4 : n ≤ 4) (hl : l.length = szN n) (h : ∀ z ∈ l, 0 ≤ z ∧ z < 256) : lowB (packX n (unpV n (leN l))) (szN n) = l := by
  have hb := leN_bound l h
  rw [hl] at hb
  have e : packX n (unpV n (leN l)) = leN l := by
    have : n = 1 ∨ n = 2 ∨ n = 3 ∨ n = 4 := by omega
    rcases this with rfl | rfl | rfl | rfl
    · exact packunp_1 _ hb.1 hb.2
    · exact packunp_2 _ hb.1 hb.2
    · exact packunp_3 _ hb.1 hb.2
    · exact packunp_4 _ hb.1 hb.2
  rw [e, ← hl]
  exact lowB_leN l h
theorem unp4_L (n : Nat) (X : Int) : (unp4 n X).L = unpV n X := by
  obtain ⟨a, b, c, d, h⟩ := unp_four n X
  unfold unp4
  rw [h]
  rfl
theorem splice_own {α : Type} (l : List α) (p S : Nat) (h : p + S ≤ l.length) : splice l p ((l.drop p).take S) = l := by
  have hl : ((l.drop p).take S).length = S := by rw [List.length_take, List.length_drop]; omega
  unfold splice
  rw [hl, ← List.drop_drop, List.take_append_drop, List.take_append_drop]
theorem set_own {α : Type} (l : List α) (i : Nat) (d : α) (h : i < l.length) (z : α) (hz : z = l.getD i d) : l.set i z = l := by
  subst hz
  rw [List.getD_eq_getElem?_getD, List.getElem?_eq_getElem h]
  exact List.set_getElem_self h
/-- What is told, laid again, changes nothing. -/
theorem lay_back {P : Pl} (h : P.Ok) {i : Nat} (hi : i < P.W * P.H) : layV P i (cellV P i) = P := by
  have hf := lay_fit h hi
  have hc : lowB (packX P.F (cellV P i).v.L) (szN P.F) = colAt P i := by
    show lowB (packX P.F (unp4 P.F (leN (colAt P i))).L) (szN P.F) = colAt P i
    rw [unp4_L]
    exact chunk_back4 P.F (colAt P i) h.f1 h.f2 (by unfold colAt; rw [List.length_take, List.length_drop]; omega) (fun z hz => u8_of_wf (h.colw z (List.mem_of_mem_drop (List.mem_of_mem_take hz))))
  unfold layV
  rw [hc]
  obtain ⟨W, H, F, dep, sten, col, dz, ms⟩ := P
  have hdl : i < dz.length := by have := h.dz; simp only at this; rw [this]; exact hi
  have hml : i < ms.length := by have := h.ms; simp only at this; rw [this]; exact hi
  have e1 : splice col (i * szN F) (colAt ⟨W, H, F, dep, sten, col, dz, ms⟩ i) = col := splice_own col (i * szN F) (szN F) hf
  have e2 : (if dep then dz.set i (bitsV (cellV ⟨W, H, F, dep, sten, col, dz, ms⟩ i).dep 16) else dz) = dz := by
    cases dep
    · rfl
    · rw [if_pos rfl]
      refine set_own dz i 0 hdl _ ?_
      have hz : 0 ≤ dz.getD i 0 ∧ dz.getD i 0 < 65536 := u16_of_wf (h.dzw (dz.getD i 0) (by rw [List.getD_eq_getElem?_getD, List.getElem?_eq_getElem hdl]; exact List.getElem_mem hdl))
      exact bits_num (dz.getD i 0) 16 (by decide) (by decide) hz.1 (by omega)
  have e3 : (if sten then ms.set i ((cellV ⟨W, H, F, dep, sten, col, dz, ms⟩ i).sten % 256) else ms) = ms := by
    cases sten
    · rfl
    · rw [if_pos rfl]
      refine set_own ms i 0 hml _ ?_
      have hz : 0 ≤ ms.getD i 0 ∧ ms.getD i 0 < 256 := u8_of_wf (h.msw (ms.getD i 0) (by rw [List.getD_eq_getElem?_getD, List.getElem?_eq_getElem hml]; exact List.getElem_mem hml))
      exact Int.emod_eq_of_lt hz.1 hz.2
  show (⟨W, H, F, dep, sten, splice col (i * szN F) (colAt ⟨W, H, F, dep, sten, col, dz, ms⟩ i), if dep then dz.set i (bitsV (cellV ⟨W, H, F, dep, sten, col, dz, ms⟩ i).dep 16) else dz, if sten then ms.set i ((cellV ⟨W, H, F, dep, sten, col, dz, ms⟩ i).sten % 256) else ms⟩ : Pl) = _
  rw [e1, e2, e3]
theorem may_cell {P : Pl} (h : P.Ok) {i : Nat} (hi : i < P.W * P.H) : mayB (cellV P i) = true := by
  have ho := cellV_ok h hi
  have ha := ho.v (cellV P i).v.a (by simp [V4.L])
  have hb := ho.v (cellV P i).v.b (by simp [V4.L])
  have hc := ho.v (cellV P i).v.c (by simp [V4.L])
  have hd := ho.v (cellV P i).v.d (by simp [V4.L])
  have hz := ho.d
  have hs := ho.s
  unfold mayB Ce.L5 n01
  simp only [List.all_cons, List.all_nil, Bool.and_true, Bool.and_eq_true, decide_eq_true_eq]
  omega
/-- Lists of calls. -/
def OpsAt (w : World) (v : Value) (L : List Opn) : Prop := SlC w v 66 L.length (L.flatMap Opn.C)
theorem OpsAt.ext {w w' : World} {v : Value} {L : List Opn} (h : OpsAt w v L) (x : Ext w w') : OpsAt w' v L := SlC.ext h x
theorem op_list {w : World} {css : List (List Value)} (h : ∀ cs ∈ css, Fits (CellIs Try.prog w) opLs cs) : ∃ L : List Opn, L.length = css.length ∧ L.flatMap Opn.C = css.flatten ∧ ∀ o ∈ L, o.Wf := by
  induction css with
  | nil => exact ⟨[], rfl, rfl, by simp⟩
  | cons cs css ih =>
    obtain ⟨L, h1, h2, h3⟩ := ih (fun c hc => h c (by simp [hc]))
    obtain ⟨o, rfl, ho⟩ := op_form (h cs (by simp))
    refine ⟨o :: L, by simp [h1], by rw [List.flatMap_cons, List.flatten_cons, h2], fun q hq => ?_⟩
    rcases List.mem_cons.1 hq with rfl | hq
    · exact ho
    · exact h3 q hq
theorem ops_arg {W : World} {v : Value} (h : ArgIs Try.prog W 52 v) : ∃ L, OpsAt W v L ∧ ∀ o ∈ L, o.Wf := by
  obtain ⟨css, h1, h2⟩ := h.elems 8 (ls := opLs) Try.underlying52 (by kernel_rfl) (by kernel_rfl) (by decide)
  obtain ⟨L, g1, g2, g3⟩ := op_list h2
  refine ⟨L, ?_, g3⟩
  unfold OpsAt
  rw [g1, g2]
  exact h1
theorem op_len (o : Opn) : o.C.length = 66 := rfl
theorem flat_at9 {α : Type} (n : Nat) : ∀ (css : List (List α)) (k j : Nat), (∀ cs ∈ css, cs.length = n) → j < n → css.flatten[k * n + j]? = css[k]?.bind (·[j]?)
  | [], k, j, _, _ => by simp
  | c :: css, 0, j, h, hj => by
    have hc := h c (by simp)
    rw [List.flatten_cons, Nat.zero_mul, Nat.zero_add, List.getElem?_append_left (by omega)]
    rfl
  | c :: css, k + 1, j, h, hj => by
    have hc := h c (by simp)
    rw [List.flatten_cons, List.getElem?_append_right (by rw [Nat.succ_mul]; omega), List.getElem?_cons_succ, ← flat_at9 n css k j (fun cs hcs => h cs (by simp [hcs])) hj]
    congr 1
    rw [Nat.succ_mul]
    omega
theorem ops_at (L : List Opn) (k : Nat) (o : Opn) (h : L[k]? = some o) (j : Nat) (hj : j < 66) : (L.flatMap Opn.C)[k * 66 + j]? = o.C[j]? := by
  have := flat_at9 66 (L.map Opn.C) k j (by intro cs hcs; obtain ⟨p, _, rfl⟩ := List.mem_map.1 hcs; rfl) hj
  rw [List.flatMap_def, this]
  simp [h]
theorem Ld_Op (v : Value) : Instr.loadAt 57 v = @Classical.epsilon _ neV (LdP 57 v) := Ld_fold _ _
theorem St_Op (v u : Value) : Instr.storeAt 57 v u = @Classical.epsilon _ neU (StP 57 v u) := St_fold _ _ _
theorem info_op : (Try.prog.info? 57).map (·.size) = some 66 := by kernel_rfl
/-- The k-th call is loaded. -/
theorem OpsAt.load {w : World} {a : Option Addr} {cap n : Nat} {L : List Opn} (h : OpsAt w (.slice a n cap) L) {k : Nat} {o : Opn} (ho : L[k]? = some o) : ∃ b off, a = some ⟨b, off, none⟩ ∧ b < w.heap.size ∧ (@Classical.epsilon _ neV (LdP 57 (.pointer (some ⟨b, off + k * 66, none⟩)))).run Try.prog w = .ok (.agg o.C.toArray) w := by
  have hk := (List.getElem?_eq_some_iff.1 ho).1
  obtain ⟨_, a', cap', he, _, _, _, hp⟩ := h
  simp only [Value.slice.injEq] at he
  obtain ⟨rfl, rfl, rfl⟩ := he
  obtain ⟨b, off, rfl, hb, hcell⟩ := hp (by omega)
  refine ⟨b, off, rfl, hb, ldF_ok (cs := o.C) _ (fun j u hu => ?_) Try.underlying57 rfl (by rw [op_len]; exact info_op)⟩
  have hj : j < 66 := by have := (List.getElem?_eq_some_iff.1 hu).1; rwa [op_len] at this
  have := hcell (k * 66 + j) u ((ops_at L k o ho j hj).trans hu)
  rwa [← Nat.add_assoc] at this
def opZ : Opn := ⟨0, 0, 0, 0, 0, ceZ, stz, ⟨0, 0, 0, 0, false, zero4, .slice none 0 0⟩, zero4, 0, 0, 0⟩
theorem newOp (w : World) (u : Opn) (hv : u.fr.vars.oneCell' = true) : ∃ w', (@Classical.epsilon _ neU (StP 57 (.pointer (some ⟨w.heap.size, 0, none⟩)) (.agg u.C.toArray))).run Try.prog (w.alloc (.cells Try.zeroCells57 57)) = .ok () w' ∧ OpAt w' w.heap.size u ∧ Ext w w' := by
  have h : OpAt (w.alloc (.cells Try.zeroCells57 57)) w.heap.size opZ := heap_alloc_new _ _
  obtain ⟨h1, h2, h3⟩ := stF_mid 57 h 0 u.C (by rw [op_len, op_len]; decide) (by rw [op_len]; exact info_op) (by simpa [Opn.C, Ce.C, St.C, Sten.C, Bl.C, V4.C, Fr.C, Value.oneCell'] using hv)
  refine ⟨_, h1, ?_, ((Ext.refl _).alloc _).chgTrans h3 (by simp)⟩
  unfold OpAt
  rw [h2, List.take_zero, List.nil_append, Nat.zero_add, List.drop_eq_nil_of_le (by rw [op_len, op_len]; decide), List.append_nil]
end Go.Proofs.Ytgdcdkajicgliaa
