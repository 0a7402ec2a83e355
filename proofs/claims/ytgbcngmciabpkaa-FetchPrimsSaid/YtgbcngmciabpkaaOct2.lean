/- Contracts of octet's Reader: Read, take, Raw, number, the readers of numbers, Skip, Left, Err. Conditions: each theorem's own premises. -/
import Derived.Test.YtgbcngmciabpkaaOct1
namespace Go.Proofs.Ytgbcngmciabpkaa
open Go.RowKit
set_option linter.unusedVariables false

/-- Block p is a reader of the bytes bs that is at 'at_', with an error. -/
def RdAt (w : World) (p : Nat) (bs : List Int) (at_ : Nat) (er : Int) : Prop :=
  ∃ v, w.heap[p]? = some (.cells #[v, .int .i64 at_, .int .i64 er] 95 (0, 0)) ∧ Ints .u8 w v bs ∧ at_ ≤ bs.length

theorem RdAt.lt {w : World} {p : Nat} {bs : List Int} {at_ : Nat} {er : Int} (h : RdAt w p bs at_ er) : p < w.heap.size := by
  obtain ⟨v, h1, _⟩ := h
  exact (Array.getElem?_eq_some_iff.1 h1).1

/-- The reader's bytes do not lie in the reader. -/
theorem RdAt.apart {w : World} {p : Nat} {v : Value} {zs : List Int} {c0 : Value} {c1' c2' : Int} {T : TypeId} (h : w.heap[p]? = some (.cells #[c0, .int .i64 c1', .int .i64 c2'] T (0, 0))) (hc0 : ∀ z, c0 ≠ .int .u8 z) (hv : Ints .u8 w v zs) :
    ∀ b, v.ownBlock = some b → 0 < zs.length → b ∉ [p] := by
  intro b hb h0 hm
  simp at hm
  subst hm
  obtain ⟨⟨_, a, cap, rfl, _, _, _, hp⟩, _⟩ := hv
  obtain ⟨b', off, rfl, _, hcell⟩ := hp h0
  simp [Value.ownBlock] at hb
  subst hb
  have := hcell 0 (.int .u8 (zs.getD 0 0)) (by
    cases zs with
    | nil => simp at h0
    | cons z l => simp)
  simp only [World.cell?, h] at this
  simp at this
  rcases off with _ | _ | _ | off <;> simp at this
  exact hc0 _ this

theorem RdAt.ext {w w' : World} {p : Nat} {bs : List Int} {at_ : Nat} {er : Int} (h : RdAt w p bs at_ er) (x : Ext w w') : RdAt w' p bs at_ er := by
  obtain ⟨v, h1, h2, h3⟩ := h
  exact ⟨v, x.heap h1, h2.ext x, h3⟩

/-- What taking n bytes does. -/
def takeR (bs : List Int) (at_ : Nat) (er n : Int) : List Int × Nat × Int :=
  if er ≠ 0 then ([], at_, er) else if n < 0 then ([], at_, 2) else if (bs.length : Int) - at_ < n then ([], at_, 7) else ((bs.drop at_).take n.toNat, at_ + n.toNat, 0)

/-- octet.Read. -/
theorem read_any (v : Value) (zs : List Int) (w : World) (h : Ints .u8 w v zs) (hb : zs.length ≤ 140737488355328) :
    Calls Try.prog 35 #[v] w fun e w' => ∃ p, e = .returned (.pointer (some ⟨p, 0, none⟩)) ∧ w.heap.size ≤ p ∧ RdAt w' p zs 0 0 ∧ Ext w w' := by
  go_enter Try.func35, Try.ntmps35
  go_wp2_with (go_at_call 50; refine (clone_u8 _ zs _ h hb).mono ?_; rintro e w1 ⟨a1, k1, rfl, hown, hi1, hx1⟩)
  go_ret
  exact ⟨_, rfl, hx1.size, ⟨_, heap_alloc_new _ _, hi1.ext ((Ext.refl _).alloc _), Nat.zero_le _⟩, hx1.alloc _⟩

theorem RdAt.set {w w' : World} {p : Nat} {bs : List Int} {at_ : Nat} {er : Int} (h : RdAt w p bs at_ er) {at1 : Nat} {er1 : Int} (hat : at1 ≤ bs.length)
    (hw : ∀ c, w.heap[p]? = some (.cells #[c, .int .i64 at_, .int .i64 er] 95 (0, 0)) → w'.heap[p]? = some (.cells #[c, .int .i64 at1, .int .i64 er1] 95 (0, 0))) (hc : Chg [p] w w') : RdAt w' p bs at1 er1 := by
  obtain ⟨v, h1, h2, h3⟩ := h
  obtain ⟨a, cap, rfl⟩ : ∃ a cap, v = .slice a bs.length cap := by obtain ⟨⟨_, a, cap, rfl, _⟩, _⟩ := h2; exact ⟨a, cap, rfl⟩
  exact ⟨_, hw _ h1, h2.chg hc (RdAt.apart h1 (by intro z h; cases h) h2), hat⟩

/-- Another reader stays. -/
theorem RdAt.keep {w w' : World} {p q : Nat} {bs cs : List Int} {at_ at1 : Nat} {er er1 : Int} (h : RdAt w q bs at_ er) (k : RdAt w p cs at1 er1) (hne : q ≠ p) (hc : Chg [p] w w') : RdAt w' q bs at_ er := by
  obtain ⟨v, h1, h2, h3⟩ := h
  obtain ⟨u, k1, k2, k3⟩ := k
  have hu : ∀ z, u ≠ .int .u8 z := by
    obtain ⟨⟨_, a, cap, rfl, _⟩, _⟩ := k2
    intro z h
    cases h
  exact ⟨v, hc.heap h1 (by simpa using hne), h2.chg hc (RdAt.apart k1 hu h2), h3⟩

/-- A reader stays while a block that holds no bytes is written. -/
theorem RdAt.keepBlock {w w' : World} {p b : Nat} {bs : List Int} {at_ : Nat} {er : Int} {x y : Value} {T : TypeId} (h : RdAt w p bs at_ er) (hne : p ≠ b) (hb : w.heap[b]? = some (.cells #[x, y] T (0, 0))) (hx : ∀ z, x ≠ .int .u8 z) (hy : ∀ z, y ≠ .int .u8 z) (hc : Chg [b] w w') : RdAt w' p bs at_ er := by
  obtain ⟨v, h1, h2, h3⟩ := h
  refine ⟨v, hc.heap h1 (by simpa using hne), h2.chg hc ?_, h3⟩
  intro b' hb' h0 hm
  simp at hm
  subst hm
  obtain ⟨⟨_, a, cap, rfl, _, _, _, hp⟩, _⟩ := h2
  obtain ⟨b2, off, rfl, _, hcell⟩ := hp h0
  simp [Value.ownBlock] at hb'
  subst hb'
  have := hcell 0 (.int .u8 (bs.getD 0 0)) (by
    cases bs with
    | nil => simp at h0
    | cons z l => simp)
  simp only [World.cell?, hb] at this
  simp at this
  rcases off with _ | _ | off <;> simp at this
  · exact hx _ this
  · exact hy _ this

/-- octet.spot.take. -/
theorem take_any (p : Nat) (bs : List Int) (at_ : Nat) (er n : Int) (w : World) (hr : RdAt w p bs at_ er) (hb : bs.length ≤ 140737488355328) (hn : (Lit.int .i64 n).wf = true) :
    Calls Try.prog 53 #[.pointer (some ⟨p, 0, none⟩), .int .i64 n] w fun e w' => ∃ a cap, e = .returned (.slice a (takeR bs at_ er n).1.length cap) ∧ Ints .u8 w' (.slice a (takeR bs at_ er n).1.length cap) (takeR bs at_ er n).1 ∧
      RdAt w' p bs (takeR bs at_ er n).2.1 (takeR bs at_ er n).2.2 ∧ Chg [p] w w' := by
  have hr0 := hr
  obtain ⟨v, hp, hi, hat⟩ := hr
  obtain ⟨a, cap, rfl⟩ : ∃ a cap, v = .slice a bs.length cap := by obtain ⟨⟨_, a, cap, rfl, _⟩, _⟩ := hi; exact ⟨a, cap, rfl⟩
  have hbc : bs.length ≤ cap ∧ cap ≤ maxLen := by obtain ⟨⟨_, a, cap, he, h1, h2, _⟩, _⟩ := hi; simp at he; obtain ⟨rfl, rfl⟩ := he; exact ⟨h1, h2⟩
  obtain ⟨hbc, hcm⟩ := hbc
  unfold maxLen at hcm
  have c0 : w.cell? ⟨p, 0, none⟩ = some (.slice a bs.length cap) := by simp [World.cell?, hp]
  have c1 : w.cell? ⟨p, 1, none⟩ = some (.int .i64 at_) := by simp [World.cell?, hp]
  have c2 : w.cell? ⟨p, 2, none⟩ = some (.int .i64 er) := by simp [World.cell?, hp]
  have f1 : w.frozen? ⟨p, 1, none⟩ = false := by simp [World.frozen?, hp]
  have f2 : w.frozen? ⟨p, 2, none⟩ = false := by simp [World.frozen?, hp]
  have HP := Lib.hid hp
  clear hp
  by_cases he : er = 0
  · subst he
    by_cases hneg : n < 0
    · have hT : Hid (takeR bs at_ 0 n = ([], at_, 2)) := by unfold takeR; rw [if_neg (by decide), if_pos hneg]; rfl
      go_enter Try.func53, Try.ntmps53
      go_wp2
      go_ret
      rw [hT.out]
      have hc : Chg [p] w (w.setCell ⟨p, 2, none⟩ (.int .i64 2)) := (Chg.refl _ _).setCell (by simp) _
      exact ⟨none, 0, rfl, Ints.nil _ _, hr0.set hat (fun c h => heap_set h) hc, hc⟩
    · have hnn : 0 ≤ n := by omega
      by_cases hlt : (bs.length : Int) - at_ < n
      · have hT : Hid (takeR bs at_ 0 n = ([], at_, 7)) := by unfold takeR; rw [if_neg (by decide), if_neg hneg, if_pos hlt]; rfl
        go_enter Try.func53, Try.ntmps53
        go_wp2
        go_quiet (fail)
        go_wp2
        go_ret
        rw [hT.out]
        have hc : Chg [p] w ((w.drewN nq).setCell ⟨p, 2, none⟩ (.int .i64 7)) := (((Ext.refl w).drewN nq).chg [p]).setCell (by simp) _
        exact ⟨none, 0, rfl, Ints.nil _ _, hr0.set hat (fun c h => heap_set h) hc, hc⟩
      · obtain ⟨m, rfl⟩ := Int.eq_ofNat_of_zero_le hnn
        have hle : (m : Int) ≤ (bs.length : Int) - at_ := by omega
        have hT : Hid (takeR bs at_ 0 (m : Int) = ((bs.drop at_).take m, at_ + m, 0)) := by unfold takeR; rw [if_neg (by decide), if_neg hneg, if_neg hlt]; rfl
        have hs1 : IntKind.i64.wrap ((at_ : Int) + m - m) = at_ := by rw [IntWalk.i64_in _ (by omega)]; omega
        have hs2 : 0 ≤ (at_ : Int) + m := by omega
        have hs3 : (at_ : Int) + m ≤ cap := by omega
        have hs4 : ((at_ : Int) + m).toNat = at_ + m := by omega
        have hlen : Hid (((bs.drop at_).take m).length = m) := by show _ = _; rw [List.length_take, List.length_drop]; omega
        have HC1 : Hid (cap = at_ → Ints .u8 w (.slice a m 0) ((bs.drop at_).take m)) := by
          intro e
          have := hi.cut at_ (at_ + m) (by omega) (by omega)
          rw [Nat.add_sub_cancel_left, if_pos e, e, Nat.sub_self] at this
          exact this
        have HC2 : Hid (¬ cap = at_ → Ints .u8 w (.slice (a.map (·.add at_)) m (cap - at_)) ((bs.drop at_).take m)) := by
          intro e
          have := hi.cut at_ (at_ + m) (by omega) (by omega)
          rw [Nat.add_sub_cancel_left, if_neg e] at this
          exact this
        clear hlt hneg
        go_enter Try.func53, Try.ntmps53
        go_wp2
        go_quiet (fail)
        go_wp2
        go_quiet (fail)
        go_wp2
        all_goals
          go_ret
          rw [hT.out, hlen.out]
          have hc : ∀ n1 n2 u, Chg [p] w (((w.drewN n1).setCell ⟨p, 1, none⟩ u).drewN n2) := fun n1 n2 u => ((((Ext.refl w).drewN n1).chg [p]).setCell (by simp) _).trans (((Ext.refl _).drewN n2).chg [p])
          refine ⟨_, _, rfl, ?_, hr0.set (show at_ + m ≤ bs.length by omega) (fun c h => ?_) (hc _ _ _), hc _ _ _⟩
          · first
              | exact (HC1.out ‹_›).chg (hc _ _ _) (RdAt.apart HP.out (by intro z h; cases h) (HC1.out ‹_›))
              | exact (HC2.out ‹_›).chg (hc _ _ _) (RdAt.apart HP.out (by intro z h; cases h) (HC2.out ‹_›))
          · exact (heap_set (k := 1) (u := .int .i64 ((at_ : Int) + m)) (w := w.drewN _) h).trans (by simp)
  · have hT : Hid (takeR bs at_ er n = ([], at_, er)) := by unfold takeR; rw [if_pos he]; rfl
    have he' : (er == 0) = false := by simpa using he
    have he2 : (er != 0) = true := by simpa using he
    go_enter Try.func53, Try.ntmps53
    go_wp2
    go_ret
    rw [hT.out]
    exact ⟨none, 0, rfl, Ints.nil _ _, hr0, Chg.refl _ _⟩

end Go.Proofs.Ytgbcngmciabpkaa
