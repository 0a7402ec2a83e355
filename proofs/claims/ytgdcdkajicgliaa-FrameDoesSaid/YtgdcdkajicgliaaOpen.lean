/- How arguments that can be read as data look: plain lemmas over any program. No conditions. -/
import Derived.Test.YtgdcdkajicgliaaKit
import Derived.ProofKit
import Derived.OpenShut
import Derived.ChangeOld
import Derived.SizedLaws
namespace Go.Proofs.Ytgdcdkajicgliaa
open Go.ChangeShapes Go.WideShapes Go.ChangeAt Go.RowKit
set_option linter.unusedVariables false

section
variable {H : Type} {enc : TypeId × Value → H} {P : Program} {w : World} {base : Nat} {spare : Nat → Bool} {held : Bool}

/-- What stands in one cell. -/
inductive Lc where
  | bool
  | int (k : IntKind)
  | slice (e : TypeId)

/-- The fields' cells, one behind the other. -/
def flatFs (P : Program) (g : TypeId → Option (List Lc)) : Nat → List Field → Option (List Lc)
  | _, [] => some []
  | off, f :: fs =>
    match g f.type with
    | none => none
    | some a => if f.offset = off ∧ P.cellsOf f.type = a.length then (flatFs P g (off + a.length) fs).map (a ++ ·) else none

/-- The cells of a type of bools, integers, slices, structs and arrays. -/
def flat (P : Program) : Nat → TypeId → Option (List Lc)
  | 0, _ => none
  | n + 1, t =>
    match P.underlying t with
    | some .bool => some [.bool]
    | some (.int k) => some [.int k]
    | some (.slice e) => some [.slice e]
    | some (.struct fs) => flatFs P (flat P n) 0 fs.toList
    | some (.array len e) => (flat P n e).bind fun a => if P.cellsOf e = a.length then some ((List.replicate len a).flatten) else none
    | _ => none

/-- A cell that reads as its type. -/
def cellOk {H : Type} (enc : TypeId × Value → H) (P : Program) (w : World) (base : Nat) (spare : Nat → Bool) (held : Bool) : Lc → Value → Prop
  | .bool, v => ∃ b, v = .bool b
  | .int k, v => ∃ n, v = .int k n ∧ (Lit.int k n).wf = true
  | .slice e, v => v = .slice none 0 0 ∨ ∃ a len cap, v = .slice (some a) len cap ∧ len ≤ cap ∧ cap ≤ maxLen ∧
      ∀ i, i < len → ∃ ecs, w.cells? base (a.add (i * P.cellsOf e)) (P.cellsOf e) = some ecs ∧ ∃ fuel y, DataW.trod enc P w base spare held fuel e ecs = some y

/-- The same, whatever the way of reading. -/
def CellIs (P : Program) (w : World) : Lc → Value → Prop
  | .bool, v => ∃ b, v = .bool b
  | .int k, v => ∃ n, v = .int k n ∧ (Lit.int k n).wf = true
  | .slice e, v => v = .slice none 0 0 ∨ ∃ a len cap, v = .slice (some a) len cap ∧ len ≤ cap ∧ cap ≤ maxLen ∧
      ∀ i, i < len → ∃ ecs, w.cells? 0 (a.add (i * P.cellsOf e)) (P.cellsOf e) = some ecs ∧ ∃ (H : Type) (enc : TypeId × Value → H) (fuel : Nat) (y : DataW H × List MemPlace), DataW.trod enc P w 0 (fun _ => true) true fuel e ecs = some y

theorem CellIs.of {H : Type} {enc : TypeId × Value → H} {P : Program} {w : World} : ∀ {l : Lc} {v : Value}, cellOk enc P w 0 (fun _ => true) true l v → CellIs P w l v
  | .bool, _, h => h
  | .int _, _, h => h
  | .slice e, _, h => h.imp id fun ⟨a, len, cap, h1, h2, h3, h4⟩ => ⟨a, len, cap, h1, h2, h3, fun i hi => let ⟨ecs, h5, fuel, y, h6⟩ := h4 i hi; ⟨ecs, h5, H, enc, fuel, y, h6⟩⟩

theorem mapM_some {α β : Type} {g : α → Option β} : ∀ {l : List α} {ys : List β}, l.mapM g = some ys → ∀ (x : α), x ∈ l → ∃ y, g x = some y
  | [], _, _, x, hx => by cases hx
  | a :: l, ys, h, x, hx => by
    rw [List.mapM_cons] at h
    cases ha : g a with
    | none => simp [ha] at h
    | some b =>
      cases hl : l.mapM g with
      | none => simp [ha, hl] at h
      | some bs =>
        rcases List.mem_cons.1 hx with rfl | hx
        · exact ⟨b, ha⟩
        · exact mapM_some hl x hx

/-- Lists that fit cell by cell. -/
inductive Fits (R : Lc → Value → Prop) : List Lc → List Value → Prop where
  | nil : Fits R [] []
  | cons {l : Lc} {v : Value} {ls : List Lc} {vs : List Value} : R l v → Fits R ls vs → Fits R (l :: ls) (v :: vs)

theorem Fits.append {R : Lc → Value → Prop} {ls ks : List Lc} {vs us : List Value} (h : Fits R ls vs) (k : Fits R ks us) : Fits R (ls ++ ks) (vs ++ us) := by
  induction h with
  | nil => exact k
  | cons h1 _ ih => exact .cons h1 ih

theorem Fits.length {R : Lc → Value → Prop} {ls : List Lc} {vs : List Value} (h : Fits R ls vs) : vs.length = ls.length := by
  induction h with
  | nil => rfl
  | cons _ _ ih => simp [ih]

theorem Fits.imp {R S : Lc → Value → Prop} {ls : List Lc} {vs : List Value} (h : Fits R ls vs) (hi : ∀ l v, R l v → S l v) : Fits S ls vs := by
  induction h with
  | nil => exact .nil
  | cons h1 _ ih => exact .cons (hi _ _ h1) ih

theorem Fits.cons_inv {R : Lc → Value → Prop} {l : Lc} {ls : List Lc} {vs : List Value} (h : Fits R (l :: ls) vs) : ∃ v us, vs = v :: us ∧ R l v ∧ Fits R ls us := by
  cases h with
  | cons h1 h2 => exact ⟨_, _, rfl, h1, h2⟩
theorem Fits.nil_inv {R : Lc → Value → Prop} {vs : List Value} (h : Fits R [] vs) : vs = [] := by
  cases h; rfl

theorem fits_fs {R : Lc → Value → Prop} {g : TypeId → Option (List Lc)} (cs : List Value) : ∀ (fs : List Field) (off : Nat) (ls : List Lc), flatFs P g off fs = some ls →
    (∀ f, f ∈ fs → ∀ a, g f.type = some a → Fits R a ((cs.drop f.offset).take (P.cellsOf f.type))) → off + ls.length ≤ cs.length → Fits R ls ((cs.drop off).take ls.length)
  | [], off, ls, h, _, _ => by
    simp [flatFs] at h
    subst h
    simp
    exact .nil
  | f :: fs, off, ls, h, hf, hlen => by
    simp only [flatFs] at h
    cases hg : g f.type with
    | none => simp [hg] at h
    | some a =>
      simp only [hg] at h
      split at h
      · rename_i hc
        obtain ⟨h1, h2⟩ := hc
        cases hr : flatFs P g (off + a.length) fs with
        | none => simp [hr] at h
        | some rs =>
          simp only [hr, Option.map_some, Option.some.injEq] at h
          subst h
          have ha := hf f (by simp) a hg
          rw [h1, h2] at ha
          have := fits_fs cs fs (off + a.length) rs hr (fun x hx b hb => hf x (by simp [hx]) b hb) (by simp at hlen; omega)
          have happ := ha.append this
          have e : (cs.drop off).take (a ++ rs).length = (cs.drop off).take a.length ++ (cs.drop (off + a.length)).take rs.length := by
            rw [List.length_append, List.take_add, List.drop_drop]
          rw [e]
          exact happ
      · cases h

theorem fits_arr {R : Lc → Value → Prop} (a : List Lc) (cs : List Value) : ∀ (n off : Nat), (∀ i, i < n → Fits R a ((cs.drop ((off + i) * a.length)).take a.length)) → Fits R ((List.replicate n a).flatten) ((cs.drop (off * a.length)).take (n * a.length))
  | 0, off, _ => by simp; exact .nil
  | n + 1, off, h => by
    have h0 := h 0 (by omega)
    rw [Nat.add_zero] at h0
    have := fits_arr a cs n (off + 1) (fun i hi => by have := h (i + 1) (by omega); rwa [show off + (i + 1) = off + 1 + i by omega] at this)
    have happ := h0.append this
    rw [List.replicate_succ, List.flatten_cons]
    have e : (cs.drop (off * a.length)).take ((n + 1) * a.length) = (cs.drop (off * a.length)).take a.length ++ (cs.drop ((off + 1) * a.length)).take (n * a.length) := by
      rw [Nat.add_mul, Nat.one_mul, Nat.add_comm (n * a.length), List.take_add, List.drop_drop, Nat.add_mul off 1, Nat.one_mul]
    rw [e]
    exact happ

theorem flatFs_size {g : TypeId → Option (List Lc)} {off : Nat} {fs : List Field} {ls : List Lc} (h : flatFs P g off fs = some ls) : ∀ f, f ∈ fs → ∀ a, g f.type = some a → P.cellsOf f.type = a.length := by
  induction fs generalizing off ls with
  | nil => intro f hf; cases hf
  | cons f0 fs ih =>
    intro f hf a ha
    simp only [flatFs] at h
    cases hg : g f0.type with
    | none => simp [hg] at h
    | some b =>
      simp only [hg] at h
      split at h
      · rename_i hc
        rcases List.mem_cons.1 hf with rfl | hf
        · rw [hg] at ha; cases ha; exact hc.2
        · cases hr : flatFs P g (off + b.length) fs with
          | none => simp [hr] at h
          | some rs => exact ih hr f hf a ha
      · cases h

/-- What is read as data of such a type has such cells. -/
theorem trod_flat : ∀ (n : Nat) (t : TypeId) (ls : List Lc), flat P n t = some ls → ∀ (fuel : Nat) (cs : List Value) (x : DataW H × List MemPlace), DataW.trod enc P w base spare held fuel t cs = some x → P.cellsOf t = ls.length → Fits (cellOk enc P w base spare held) ls cs
  | 0, _, _, h, _, _, _, _, _ => by simp [flat] at h
  | n + 1, t, ls, h, 0, cs, x, hx, _ => by simp [DataW.trod] at hx
  | n + 1, t, ls, h, fuel + 1, cs, x, hx, hsz => by
    simp only [flat] at h
    cases hu : P.underlying t with
    | none => simp [hu] at h
    | some d =>
      rw [hu] at h
      cases d with
      | bool =>
        simp at h; subst h
        have hb : ∃ b, cs = [.bool b] := by
          obtain ⟨b, h, _⟩ := DataW.trod_bool hu hx
          exact ⟨b, h⟩
        obtain ⟨b, rfl⟩ := hb
        exact .cons (l := .bool) (v := .bool b) (show cellOk enc P w base spare held .bool (.bool b) from ⟨b, rfl⟩) .nil
      | int k =>
        simp at h; subst h
        obtain ⟨z, rfl, _, hw⟩ := DataW.trod_int hu hx
        exact .cons (l := .int k) (show cellOk enc P w base spare held (.int k) (.int k z) from ⟨z, rfl, hw⟩) .nil
      | slice e =>
        simp at h; subst h
        rcases DataW.trod_slice hu hx with ⟨rfl, _⟩ | ⟨a, len, cap, elems, rest, m, _, rfl, rfl, hb, hl, hm, hlen, hel, hsp, hns⟩
        · exact .cons (l := .slice e) (show cellOk enc P w base spare held (.slice e) (.slice none 0 0) from .inl rfl) .nil
        · refine .cons (l := .slice e) (show cellOk enc P w base spare held (.slice e) (.slice (some a) len cap) from .inr ⟨a, len, cap, rfl, hl, hm, fun i hi => ?_⟩) .nil
          have h1 := hel i hi
          have h2 : ∃ y, elems[i]? = some y := by
            have : i < elems.length := by omega
            exact ⟨_, List.getElem?_eq_getElem this⟩
          obtain ⟨y, hy⟩ := h2
          rw [hy] at h1
          cases hcs : w.cells? base (a.add (i * P.cellsOf e)) (P.cellsOf e) with
          | none => rw [hcs] at h1; cases h1
          | some ecs => rw [hcs] at h1; exact ⟨ecs, rfl, m, y, h1⟩
      | struct fs =>
        simp only at h
        simp only [DataW.trod, hu] at hx
        split at hx
        · rename_i hlen
          cases hm : (fs.toList.mapM fun f => DataW.trod enc P w base spare held fuel f.type ((cs.drop f.offset).take (P.cellsOf f.type))) with
          | none => simp [hm] at hx
          | some ys =>
            have := fits_fs (P := P) (R := cellOk enc P w base spare held) cs fs.toList 0 ls h (fun f hf a ha => ?_) (by omega)
            · rw [List.drop_zero, List.take_of_length_le (by omega)] at this
              exact this
            · obtain ⟨y, hy⟩ := mapM_some hm f hf
              have hl : (cs.drop f.offset).take (P.cellsOf f.type) = (cs.drop f.offset).take (P.cellsOf f.type) := rfl
              refine trod_flat n f.type a ha fuel _ y hy ?_
              exact flatFs_size h f hf a ha
        · cases hx
      | array len e =>
        simp only at h
        cases hg : flat P n e with
        | none => simp [hg] at h
        | some a =>
          simp only [hg, Option.bind_some] at h
          split at h
          · rename_i hc
            simp only [Option.some.injEq] at h
            subst h
            simp only [DataW.trod, hu] at hx
            split at hx
            · rename_i hlen
              cases hm : ((List.range len).mapM fun i => DataW.trod enc P w base spare held fuel e ((cs.drop (i * P.cellsOf e)).take (P.cellsOf e))) with
              | none => simp [hm] at hx
              | some ys =>
                have hall : ∀ i, i < len → Fits (cellOk enc P w base spare held) a ((cs.drop ((0 + i) * a.length)).take a.length) := by
                  intro i hi
                  obtain ⟨y, hy⟩ := mapM_some hm i (by simpa using hi)
                  rw [hc] at hy
                  rw [Nat.zero_add]
                  exact trod_flat n e a hg fuel _ y hy hc
                have := fits_arr a cs len 0 hall
                have hL : ((List.replicate len a).flatten).length = len * a.length := by simp
                rw [Nat.zero_mul, List.drop_zero, List.take_of_length_le (by omega)] at this
                exact this
            · cases hx
          · cases h
      | _ => simp at h

/-- A value that came in as an argument. -/
def ArgIs (P : Program) (W : World) (t : TypeId) (v : Value) : Prop :=
  ∃ (H : Type) (enc : TypeId × Value → H) (d : DataW H) (p : List MemPlace) (base : Nat), DataW.Trod enc P W 0 (fun _ => true) true t v d p ∧ Value.okWide P W .any base t v ∧
    ∀ e elems spare, d = .slice elems spare → P.underlying t = some (.slice e) → (elems.length + spare.length) * P.bytesOf e ≤ reachBytes

theorem ArgIs.int {W : World} {t : TypeId} {v : Value} {k : IntKind} (hu : P.underlying t = some (.int k)) (h : ArgIs P W t v) : ∃ n, v = .int k n ∧ (Lit.int k n).wf = true := by
  obtain ⟨H, enc, d, p, base, ht, ho, _⟩ := h
  obtain ⟨n, h1, _, _, h2⟩ := open_int hu ho ht
  exact ⟨n, h1, h2⟩

theorem ArgIs.bool {W : World} {t : TypeId} {v : Value} (hu : P.underlying t = some .bool) (h : ArgIs P W t v) : ∃ b, v = .bool b := by
  obtain ⟨H, enc, d, p, base, ht, ho, _⟩ := h
  obtain ⟨n, h1, _⟩ := open_bool hu ho ht
  exact ⟨n, h1⟩

theorem ArgIs.ints {W : World} {t e : TypeId} {v : Value} {k : IntKind} {by_ : Nat} (hu : P.underlying t = some (.slice e)) (hue : P.underlying e = some (.int k)) (hc : P.cellsOf e = 1) (hb : P.bytesOf e = by_) (h : ArgIs P W t v) :
    ∃ zs, Ints k W v zs ∧ zs.length * by_ ≤ 140737488351232 := by
  obtain ⟨H, enc, d, p, base, ht, ho, hw⟩ := h
  obtain ⟨a, len, cap, rfl⟩ := okWide_slice hu ho
  obtain ⟨fuel, hf⟩ := ht
  rcases open_ints hu hue hc hf with ⟨hcs, hx⟩ | ⟨a', len', cap', zs, hcs, _, hl, hm, hz, hx, hcell, hwz⟩
  · simp [Value.cells] at hcs
    obtain ⟨rfl, rfl, rfl⟩ := hcs
    exact ⟨[], Ints.nil _ _, by simp⟩
  · simp [Value.cells] at hcs
    obtain ⟨rfl, rfl, rfl⟩ := hcs
    simp only [Prod.mk.injEq] at hx
    obtain ⟨rfl, rfl⟩ := hx
    simp only [if_true] at hz
    have hlt : (zs.take len).length = len := by rw [List.length_take]; omega
    refine ⟨zs.take len, ⟨⟨by simp, some a', cap, by rw [hlt], by omega, hm, (by intro h; cases h), fun h0 => ?_⟩, fun n hn => hwz n (List.mem_of_mem_take hn)⟩, ?_⟩
    · rw [hlt] at h0
      obtain ⟨b, off, spot⟩ := a'
      have hspot : spot = none := by simpa [Addr.add] using World.cell?_spot (hcell 0 (by omega))
      subst hspot
      refine ⟨b, off, rfl, World.block_lt_of_cell? _ _ (hcell 0 (by omega)), fun j u hu => ?_⟩
      rw [List.getElem?_map, List.getElem?_take] at hu
      split at hu
      · have := hcell j (by omega)
        rw [Addr.add_lit] at this
        rw [this]
        rw [List.getElem?_eq_getElem (by omega)] at hu
        simp only [Option.map_some, Option.some.injEq] at hu
        rw [List.getD_eq_getElem?_getD, List.getElem?_eq_getElem (by omega)]
        simpa using hu
      · simp at hu
    · have := hw e _ _ rfl hu
      rw [hb] at this
      simp only [lits, List.length_map, List.length_take, List.length_drop, reachBytes] at this
      rw [hlt]
      refine Nat.le_trans (Nat.mul_le_mul_right by_ ?_) this
      omega

/-- A struct or an array by value. -/
theorem ArgIs.agg {W : World} {t : TypeId} {v : Value} (n : Nat) {ls : List Lc} (hf : flat P n t = some ls) (hs : P.cellsOf t = ls.length) (hu : (match P.underlying t with | some (.struct _) | some (.array _ _) => true | _ => false) = true) (h : ArgIs P W t v) :
    ∃ cs : List Value, v = .agg cs.toArray ∧ Fits (CellIs P W) ls cs := by
  obtain ⟨H, enc, d, p, base, ht, ho, hw⟩ := h
  obtain ⟨fuel, hx⟩ := ht
  have : ∃ cs, v = .agg cs := by
    unfold Value.okWide at ho
    split at hu
    · rename_i fs hfs; rw [hfs] at ho; obtain ⟨cs, h, _⟩ := ho; exact ⟨cs, h⟩
    · rename_i n e hfs; rw [hfs] at ho; obtain ⟨cs, h, _⟩ := ho; exact ⟨cs, h⟩
    · cases hu
  obtain ⟨cs, rfl⟩ := this
  exact ⟨cs.toList, by simp, (trod_flat n t ls hf fuel _ _ hx hs).imp fun _ _ => CellIs.of⟩

theorem cells_of {w : World} {a : Addr} {n : Nat} {cs : List Value} (h : w.cells? 0 a n = some cs) : cs.length = n ∧ ∀ j u, cs[j]? = some u → w.cell? (a.add j) = some u := by
  simp only [World.cells?, Nat.zero_le, if_true] at h
  have key : ∀ (l : List Nat) (g : Nat → Option Value) (ys : List Value), l.mapM g = some ys → ys.length = l.length ∧ ∀ (j : Nat) (u : Value), ys[j]? = some u → ∃ i : Nat, l[j]? = some i ∧ g i = some u := by
    intro l
    induction l with
    | nil => intro g ys h; simp at h; subst h; simp
    | cons a l ih =>
      intro g ys h
      rw [List.mapM_cons] at h
      cases ha : g a with
      | none => simp [ha] at h
      | some b =>
        cases hl : l.mapM g with
        | none => simp [ha, hl] at h
        | some bs =>
          simp [ha, hl] at h
          subst h
          obtain ⟨h1, h2⟩ := ih g bs hl
          refine ⟨by simp [h1], fun j u hj => ?_⟩
          cases j with
          | zero => simp at hj; subst hj; exact ⟨a, by simp, ha⟩
          | succ j => simpa using h2 j u (by simpa using hj)
  obtain ⟨h1, h2⟩ := key _ _ _ h
  refine ⟨by simpa using h1, fun j u hj => ?_⟩
  obtain ⟨i, hi, hg⟩ := h2 j u hj
  have : i = j := by
    obtain ⟨h, rfl⟩ := List.getElem?_eq_some_iff.1 hi
    simp
  subst this
  exact hg

/-- The elements of a slice of a type of such cells. -/
theorem slice_cells {W : World} {a : Addr} {e len : Nat} (n : Nat) {ls : List Lc} (hf : flat P n e = some ls) (hs : P.cellsOf e = ls.length) (h0 : 0 < ls.length)
    (h : ∀ i, i < len → ∃ ecs, W.cells? 0 (a.add (i * P.cellsOf e)) (P.cellsOf e) = some ecs ∧ ∃ (H : Type) (enc : TypeId × Value → H) (fuel : Nat) (y : DataW H × List MemPlace), DataW.trod enc P W 0 (fun _ => true) true fuel e ecs = some y) :
    ∃ css : List (List Value), css.length = len ∧ (∀ cs, cs ∈ css → Fits (CellIs P W) ls cs) ∧ (0 < len → a.spot = none ∧ a.block < W.heap.size) ∧ ∀ j u, css.flatten[j]? = some u → W.cell? (a.add j) = some u := by
  induction len with
  | zero => exact ⟨[], rfl, by simp, by simp, by simp⟩
  | succ len ih =>
    obtain ⟨css, h1, h2, h3, h4⟩ := ih fun i hi => h i (by omega)
    obtain ⟨ecs, h5, H, enc, fuel, y, h6⟩ := h len (by omega)
    have hfit := (trod_flat n e ls hf fuel _ _ h6 hs).imp fun _ _ => CellIs.of
    obtain ⟨h7, h8⟩ := cells_of h5
    have hlen : css.flatten.length = len * ls.length := by
      rw [List.length_flatten]
      have : ∀ (l : List (List Value)), (∀ cs, cs ∈ l → cs.length = ls.length) → (l.map List.length).sum = l.length * ls.length := by
        intro l
        induction l with
        | nil => intro _; simp
        | cons x l ih => intro hh; simp [ih fun c hc => hh c (by simp [hc]), hh x (by simp), Nat.add_mul, Nat.add_comm]
      rw [this css fun cs hc => (h2 cs hc).length, h1]
    have hfirst : a.spot = none ∧ a.block < W.heap.size := by
      rcases Nat.eq_zero_or_pos len with hz | hp
      · subst hz
        have hc : ∃ u, ecs[0]? = some u := ⟨_, List.getElem?_eq_getElem (by omega)⟩
        obtain ⟨u, hu⟩ := hc
        have := h8 0 u hu
        rw [Nat.zero_mul] at this
        simp only [Addr.add, if_true] at this
        exact ⟨World.cell?_spot this, World.block_lt_of_cell? _ _ this⟩
      · exact h3 hp
    refine ⟨css ++ [ecs], by simp [h1], ?_, fun _ => hfirst, ?_⟩
    · intro cs hc
      rcases List.mem_append.1 hc with hc | hc
      · exact h2 cs hc
      · simp at hc; subst hc; exact hfit
    · intro j u hj
      rw [List.flatten_append, List.getElem?_append] at hj
      split at hj
      · exact h4 j u hj
      · rename_i hge
        simp only [List.flatten_cons, List.flatten_nil, List.append_nil] at hj
        have := h8 _ u hj
        rw [hs] at this
        obtain ⟨b, off, spot⟩ := a
        obtain ⟨hsp, _⟩ := hfirst
        simp only at hsp
        subst hsp
        rw [Addr.add_lit, Addr.add_lit] at this
        rw [Addr.add_lit]
        rw [hlen] at this hge
        rw [show off + j = off + len * ls.length + (j - len * ls.length) by omega]
        exact this

/-- A slice of a type of such cells: its cells, element by element. -/
def Elems (P : Program) (w : World) (v : Value) (ls : List Lc) (css : List (List Value)) : Prop :=
  SlC w v ls.length css.length css.flatten ∧ ∀ cs, cs ∈ css → Fits (CellIs P w) ls cs

theorem CellIs.elems {W : World} {v : Value} {e : TypeId} (n : Nat) {ls : List Lc} (hf : flat P n e = some ls) (hs : P.cellsOf e = ls.length) (h0 : 0 < ls.length) (h : CellIs P W (.slice e) v) : ∃ css, Elems P W v ls css := by
  rcases h with rfl | ⟨a, len, cap, rfl, hl, hm, hel⟩
  · exact ⟨[], SlC.nil _ _, by simp⟩
  · obtain ⟨css, h1, h2, h3, h4⟩ := slice_cells n hf hs h0 hel
    refine ⟨css, ⟨?_, some a, cap, by rw [h1], by omega, hm, (by intro h; cases h), fun hp => ?_⟩, h2⟩
    · rw [List.length_flatten]
      have : ∀ (l : List (List Value)), (∀ cs, cs ∈ l → cs.length = ls.length) → (l.map List.length).sum = l.length * ls.length := by
        intro l
        induction l with
        | nil => intro _; simp
        | cons x l ih => intro hh; simp [ih fun c hc => hh c (by simp [hc]), hh x (by simp), Nat.add_mul, Nat.add_comm]
      exact this css fun cs hc => (h2 cs hc).length
    · obtain ⟨hsp, hlt⟩ := h3 (by omega)
      obtain ⟨b, off, spot⟩ := a
      simp only at hsp hlt
      subst hsp
      exact ⟨b, off, rfl, hlt, fun j u hj => by have := h4 j u hj; rwa [Addr.add_lit] at this⟩

theorem ArgIs.elems {W : World} {t e : TypeId} {v : Value} (n : Nat) {ls : List Lc} (hu : P.underlying t = some (.slice e)) (hf : flat P n e = some ls) (hs : P.cellsOf e = ls.length) (h0 : 0 < ls.length) (h : ArgIs P W t v) : ∃ css, Elems P W v ls css := by
  obtain ⟨H, enc, d, p, base, ht, ho, hw⟩ := h
  obtain ⟨fuel, hx⟩ := ht
  obtain ⟨a, len, cap, rfl⟩ := okWide_slice hu ho
  cases fuel with
  | zero => simp [DataW.trod] at hx
  | succ fuel =>
    have h1 : flat P 1 t = some [.slice e] := by simp [flat, hu]
    have hc : Fits (cellOk enc P W 0 (fun _ => true) true) [.slice e] [.slice a len cap] := by
      rcases DataW.trod_slice hu hx with ⟨hcs, _⟩ | ⟨a', len', cap', elems, rest, m, hm0, hcs, hxe, hb, hl, hm, hlen, hel, hsp, hns⟩
      · simp [Value.cells] at hcs
        obtain ⟨rfl, rfl, rfl⟩ := hcs
        exact .cons (l := .slice e) (show cellOk enc P W 0 (fun _ => true) true (.slice e) (.slice none 0 0) from .inl rfl) .nil
      · simp [Value.cells] at hcs
        obtain ⟨rfl, rfl, rfl⟩ := hcs
        refine .cons (l := .slice e) (show cellOk enc P W 0 (fun _ => true) true (.slice e) (.slice (some a') len cap) from .inr ⟨a', len, cap, rfl, hl, hm, fun i hi => ?_⟩) .nil
        have h1 := hel i hi
        have h2 : ∃ y, elems[i]? = some y := by
          have : i < elems.length := by omega
          exact ⟨_, List.getElem?_eq_getElem this⟩
        obtain ⟨y, hy⟩ := h2
        rw [hy] at h1
        cases hcs : W.cells? 0 (a'.add (i * P.cellsOf e)) (P.cellsOf e) with
        | none => rw [hcs] at h1; cases h1
        | some ecs => rw [hcs] at h1; exact ⟨ecs, rfl, m, y, h1⟩
    obtain ⟨_, _, hcs, h3, _⟩ := hc.cons_inv
    simp at hcs
    obtain ⟨rfl, _⟩ := hcs
    exact (CellIs.of h3).elems n hf hs h0
end
end Go.Proofs.Ytgdcdkajicgliaa
