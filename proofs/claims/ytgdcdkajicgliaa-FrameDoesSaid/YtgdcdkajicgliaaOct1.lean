/- Contracts of octet's functions and of its reference's small ones: what each returns, and what it leaves of memory. Conditions: each theorem's own premises. -/
import Derived.Test.YtgdcdkajicgliaaRows
import Derived.Test.YtgdcdkajicgliaaKit
import Derived.BigQuiet
import Derived.Deep.QuietTactic
import Derived.Lib.Hide
import Derived.Lib.SliceRun
namespace Go.Proofs.Ytgdcdkajicgliaa
open Go.RowKit
set_option linter.unusedVariables false

theorem info_u8 : (Try.prog.info? 5).map (fun i => (i.zero, i.size, i.bytes)) = some (some (.int .u8 0), 1, 1) := by kernel_rfl

/-- The cells of a slice, as an append's law asks for them. -/
theorem SlC.news {w : World} {a : Option Addr} {sz n cap : Nat} {cs : List Value} (h : SlC w (.slice a n cap) sz n cs) {x : Addr} (ha : a = some x) (_hsz : 0 < sz) : ∀ j u, cs[j]? = some u → w.cell? (x.add j) = some u := by
  obtain ⟨hl, a', cap', he, hn, hc, hz, hp⟩ := h
  intro j u hu
  have h0 : 0 < n := by
    rcases Nat.eq_zero_or_pos n with h | h
    · subst h
      have : cs = [] := List.eq_nil_of_length_eq_zero (by simpa using hl)
      subst this
      simp at hu
    · exact h
  obtain ⟨b, off, rfl, hb, hcell⟩ := hp h0
  simp only [Value.slice.injEq] at he
  obtain ⟨rfl, _, _⟩ := he
  simp only [Option.some.injEq] at ha
  subst ha
  rw [Addr.add_lit]
  exact hcell j u hu

/-- What owns a row is a slice. -/
theorem owns_slice {w : World} {base : Nat} {e : TypeId} {size : Nat} {v : Value} {n : Nat} {xs : List Value} (h : w.ownsRow base e size v n xs) : ∃ a cap, v = .slice a n cap := by
  rcases h.2 with ⟨rfl, rfl⟩ | ⟨g, cap, cur, rfl, _⟩
  · exact ⟨_, _, rfl⟩
  · exact ⟨_, _, rfl⟩

theorem int_one {k : IntKind} {zs : List Int} : ∀ u ∈ zs.map (Value.int k), u.oneCell' = true := by
  intro u hu
  obtain ⟨z, _, rfl⟩ := List.mem_map.1 hu
  rfl

set_option maxHeartbeats 1000000 in
/-- slices.Clone at bytes. -/
theorem clone_u8 (v : Value) (zs : List Int) (w : World) (h : Ints .u8 w v zs) (hb : zs.length ≤ 140737488355328) :
    Calls Try.prog 66 #[v] w fun e w' => ∃ a cap, e = .returned (.slice a zs.length cap) ∧ w'.ownsRow w.heap.size 5 1 (.slice a zs.length cap) zs.length (zs.map (Value.int .u8)) ∧ Ints .u8 w' (.slice a zs.length cap) zs ∧ Ext w w' := by
  obtain ⟨i0, hi, hz0, hz1, hz2⟩ := info_parts info_u8
  obtain ⟨a, cap, rfl⟩ : ∃ a cap, v = .slice a zs.length cap := by obtain ⟨⟨_, a, cap, rfl, _⟩, _⟩ := h; exact ⟨a, cap, rfl⟩
  have q22 : ∀ (w : World) (a : Option Addr) (n c n' c' : Nat), (binOp .eql 48 (.slice a n c) (.slice none n' c')).run Try.prog w = .ok (.bool a.isNone) w := fun w a n c n' c' => Lib.run_eql_slice_nil w _ _ a n c n' c' Try.underlying48
  cases a with
  | none =>
    have h0 : cap = 0 := by obtain ⟨⟨_, a, cap, he, _, _, hz, _⟩, _⟩ := h; simp at he; obtain ⟨rfl, rfl⟩ := he; exact hz rfl
    have h1 : zs = [] := by obtain ⟨⟨_, a, cap, he, hn, _, hz, _⟩, _⟩ := h; simp at he; obtain ⟨rfl, rfl⟩ := he; rw [hz rfl] at hn; exact List.eq_nil_of_length_eq_zero (by omega)
    subst h0; subst h1
    go_enter Try.func66, Try.ntmps66
    go_wp2
    go_ret
    exact ⟨none, 0, rfl, World.ownsRow_nil _ _ _ _, Ints.nil _ _, Ext.refl _⟩
  | some x =>
    have hnews := SlC.news h.1 rfl (by decide)
    have HN := Lib.hid hnews
    clear hnews
    go_enter Try.func66, Try.ntmps66
    go_wp2_with (at_builtin; refine wpList_append_own _ rfl _ _ 48 rfl w.heap.size 5 i0 (.int .u8 0) 1 1 Try.underlying48 hi hz0 hz1 hz2 rfl (by decide) _ _ _ rfl (World.ownsRow_made w #[] 0 (Nat.le_refl _) (Nat.zero_le _) (by simp)) x zs.length cap (zs.map (Value.int .u8)) rfl ?qc1 ?qc2 ?qc3 ?qc4 ?qc5 ?qc6 ?_)
    case qc1 => simp
    case qc2 =>
      intro j u hj
      exact (Ext.refl w).alloc _ |>.cell (HN.out j u hj)
    case qc3 => exact int_one
    case qc4 => unfold maxLen; omega
    case qc5 => omega
    case qc6 => simp
    intro v' w1 hown hgrow hnil
    go_wp2
    go_ret
    have hown' : w1.ownsRow w.heap.size 5 1 v' zs.length (zs.map (Value.int .u8)) := by simpa using hown
    obtain ⟨a', c', hv'⟩ := owns_slice hown'
    rw [hv'] at hown' ⊢
    exact ⟨a', c', rfl, hown', ⟨SlC.owned hown', h.2⟩, ((Ext.refl w).alloc _).grown hgrow (by intro k hk; simp [Value.ownBlock] at hk; omega)⟩

end Go.Proofs.Ytgdcdkajicgliaa
