/- How the arguments of the statements of layer 25 come in. Conditions: each theorem's own premises. -/
import Derived.Test.YtgdcdkajicgliaaFraN
import Derived.Test.YtgdcdkajicgliaaOps18
namespace Go.Proofs.Ytgdcdkajicgliaa
open Go.RowKit
set_option linter.unusedVariables false
set_option maxRecDepth 100000

def R64 (z : Int) : Prop := -9223372036854775808 ≤ z ∧ z ≤ 9223372036854775807
def R32 (z : Int) : Prop := -2147483648 ≤ z ∧ z ≤ 2147483647
theorem r64_of {z : Int} (h : (Lit.int .i64 z).wf = true) : R64 z := by
  simp [Lit.wf, IntKind.min, IntKind.max, IntKind.signed, IntKind.bits] at h
  unfold R64
  omega
theorem r32_of {z : Int} (h : (Lit.int .i32 z).wf = true) : R32 z := by
  simp [Lit.wf, IntKind.min, IntKind.max, IntKind.signed, IntKind.bits] at h
  unfold R32
  omega
/-- A call. -/
structure Opn where
  (kind x y w h : Int)
  ce : Ce
  st : St
  fr : Fr
  col : V4
  (dep what sten : Int)
def Opn.C (o : Opn) : List Value := [.int .i64 o.kind, .int .i64 o.x, .int .i64 o.y, .int .i64 o.w, .int .i64 o.h] ++ o.ce.C ++ o.st.C ++ o.fr.C ++ o.col.C ++ [.int .i32 o.dep, .int .i64 o.what, .int .i64 o.sten]
/-- Its numbers are numbers of their kinds. -/
structure Opn.Wf (o : Opn) : Prop where
  kind : R64 o.kind
  x : R64 o.x
  y : R64 o.y
  w : R64 o.w
  h : R64 o.h
  v : ∀ z ∈ o.ce.v.L, R32 z
  d : R32 o.ce.dep
  s : R64 o.ce.sten
  dep : R32 o.dep
  what : R64 o.what
  sten : R64 o.sten
  vs : o.fr.vars.oneCell' = true
def opLs : List Lc := [.int .i64, .int .i64, .int .i64, .int .i64, .int .i64, .int .i32, .int .i32, .int .i32, .int .i32, .int .i32, .int .i64, .bool, .int .i64, .int .i64, .int .i64, .int .i64, .bool, .int .i64, .int .i64, .int .i64, .int .i64, .int .i64, .int .i64, .int .i64, .int .i64, .int .i64, .int .i64, .int .i64, .int .i64, .int .i64, .int .i64, .bool, .bool, .int .i64, .bool, .int .i64, .int .i64, .int .i64, .int .i64, .int .i64, .int .i64, .int .i32, .int .i32, .int .i32, .int .i32, .bool, .bool, .bool, .bool, .int .i64, .int .i64, .int .i32, .int .i32, .bool, .int .i32, .int .i32, .int .i32, .int .i32, .slice 26, .int .i32, .int .i32, .int .i32, .int .i32, .int .i32, .int .i64, .int .i64]
theorem op_form {w : World} {cs : List Value} (hfit : Fits (CellIs Try.prog w) opLs cs) : ∃ o : Opn, cs = o.C ∧ o.Wf := by
  obtain ⟨u0, us0, rfl, ⟨kind, rfl, q_kind⟩, g0⟩ := hfit.cons_inv
  obtain ⟨u1, us1, rfl, ⟨x, rfl, q_x⟩, g1⟩ := g0.cons_inv
  obtain ⟨u2, us2, rfl, ⟨y, rfl, q_y⟩, g2⟩ := g1.cons_inv
  obtain ⟨u3, us3, rfl, ⟨w, rfl, q_w⟩, g3⟩ := g2.cons_inv
  obtain ⟨u4, us4, rfl, ⟨h, rfl, q_h⟩, g4⟩ := g3.cons_inv
  obtain ⟨u5, us5, rfl, ⟨e0, rfl, q_e0⟩, g5⟩ := g4.cons_inv
  obtain ⟨u6, us6, rfl, ⟨e1, rfl, q_e1⟩, g6⟩ := g5.cons_inv
  obtain ⟨u7, us7, rfl, ⟨e2, rfl, q_e2⟩, g7⟩ := g6.cons_inv
  obtain ⟨u8, us8, rfl, ⟨e3, rfl, q_e3⟩, g8⟩ := g7.cons_inv
  obtain ⟨u9, us9, rfl, ⟨ed, rfl, q_ed⟩, g9⟩ := g8.cons_inv
  obtain ⟨u10, us10, rfl, ⟨es, rfl, q_es⟩, g10⟩ := g9.cons_inv
  obtain ⟨u11, us11, rfl, ⟨sc, rfl⟩, g11⟩ := g10.cons_inv
  obtain ⟨u12, us12, rfl, ⟨sx, rfl, _⟩, g12⟩ := g11.cons_inv
  obtain ⟨u13, us13, rfl, ⟨sy, rfl, _⟩, g13⟩ := g12.cons_inv
  obtain ⟨u14, us14, rfl, ⟨sw, rfl, _⟩, g14⟩ := g13.cons_inv
  obtain ⟨u15, us15, rfl, ⟨sh, rfl, _⟩, g15⟩ := g14.cons_inv
  obtain ⟨u16, us16, rfl, ⟨st, rfl⟩, g16⟩ := g15.cons_inv
  obtain ⟨u17, us17, rfl, ⟨f0, rfl, _⟩, g17⟩ := g16.cons_inv
  obtain ⟨u18, us18, rfl, ⟨f1, rfl, _⟩, g18⟩ := g17.cons_inv
  obtain ⟨u19, us19, rfl, ⟨f2, rfl, _⟩, g19⟩ := g18.cons_inv
  obtain ⟨u20, us20, rfl, ⟨f3, rfl, _⟩, g20⟩ := g19.cons_inv
  obtain ⟨u21, us21, rfl, ⟨f4, rfl, _⟩, g21⟩ := g20.cons_inv
  obtain ⟨u22, us22, rfl, ⟨f5, rfl, _⟩, g22⟩ := g21.cons_inv
  obtain ⟨u23, us23, rfl, ⟨f6, rfl, _⟩, g23⟩ := g22.cons_inv
  obtain ⟨u24, us24, rfl, ⟨b0, rfl, _⟩, g24⟩ := g23.cons_inv
  obtain ⟨u25, us25, rfl, ⟨b1, rfl, _⟩, g25⟩ := g24.cons_inv
  obtain ⟨u26, us26, rfl, ⟨b2, rfl, _⟩, g26⟩ := g25.cons_inv
  obtain ⟨u27, us27, rfl, ⟨b3, rfl, _⟩, g27⟩ := g26.cons_inv
  obtain ⟨u28, us28, rfl, ⟨b4, rfl, _⟩, g28⟩ := g27.cons_inv
  obtain ⟨u29, us29, rfl, ⟨b5, rfl, _⟩, g29⟩ := g28.cons_inv
  obtain ⟨u30, us30, rfl, ⟨b6, rfl, _⟩, g30⟩ := g29.cons_inv
  obtain ⟨u31, us31, rfl, ⟨dt, rfl⟩, g31⟩ := g30.cons_inv
  obtain ⟨u32, us32, rfl, ⟨dw, rfl⟩, g32⟩ := g31.cons_inv
  obtain ⟨u33, us33, rfl, ⟨df, rfl, _⟩, g33⟩ := g32.cons_inv
  obtain ⟨u34, us34, rfl, ⟨bl, rfl⟩, g34⟩ := g33.cons_inv
  obtain ⟨u35, us35, rfl, ⟨r0, rfl, _⟩, g35⟩ := g34.cons_inv
  obtain ⟨u36, us36, rfl, ⟨r1, rfl, _⟩, g36⟩ := g35.cons_inv
  obtain ⟨u37, us37, rfl, ⟨r2, rfl, _⟩, g37⟩ := g36.cons_inv
  obtain ⟨u38, us38, rfl, ⟨a0, rfl, _⟩, g38⟩ := g37.cons_inv
  obtain ⟨u39, us39, rfl, ⟨a1, rfl, _⟩, g39⟩ := g38.cons_inv
  obtain ⟨u40, us40, rfl, ⟨a2, rfl, _⟩, g40⟩ := g39.cons_inv
  obtain ⟨u41, us41, rfl, ⟨k0, rfl, _⟩, g41⟩ := g40.cons_inv
  obtain ⟨u42, us42, rfl, ⟨k1, rfl, _⟩, g42⟩ := g41.cons_inv
  obtain ⟨u43, us43, rfl, ⟨k2, rfl, _⟩, g43⟩ := g42.cons_inv
  obtain ⟨u44, us44, rfl, ⟨k3, rfl, _⟩, g44⟩ := g43.cons_inv
  obtain ⟨u45, us45, rfl, ⟨m0, rfl⟩, g45⟩ := g44.cons_inv
  obtain ⟨u46, us46, rfl, ⟨m1, rfl⟩, g46⟩ := g45.cons_inv
  obtain ⟨u47, us47, rfl, ⟨m2, rfl⟩, g47⟩ := g46.cons_inv
  obtain ⟨u48, us48, rfl, ⟨m3, rfl⟩, g48⟩ := g47.cons_inv
  obtain ⟨u49, us49, rfl, ⟨fx, rfl, _⟩, g49⟩ := g48.cons_inv
  obtain ⟨u50, us50, rfl, ⟨fy, rfl, _⟩, g50⟩ := g49.cons_inv
  obtain ⟨u51, us51, rfl, ⟨fz, rfl, _⟩, g51⟩ := g50.cons_inv
  obtain ⟨u52, us52, rfl, ⟨fi, rfl, _⟩, g52⟩ := g51.cons_inv
  obtain ⟨u53, us53, rfl, ⟨ff, rfl⟩, g53⟩ := g52.cons_inv
  obtain ⟨u54, us54, rfl, ⟨p0, rfl, _⟩, g54⟩ := g53.cons_inv
  obtain ⟨u55, us55, rfl, ⟨p1, rfl, _⟩, g55⟩ := g54.cons_inv
  obtain ⟨u56, us56, rfl, ⟨p2, rfl, _⟩, g56⟩ := g55.cons_inv
  obtain ⟨u57, us57, rfl, ⟨p3, rfl, _⟩, g57⟩ := g56.cons_inv
  obtain ⟨vs, us58, rfl, hvs, g58⟩ := g57.cons_inv
  obtain ⟨u59, us59, rfl, ⟨c0, rfl, _⟩, g59⟩ := g58.cons_inv
  obtain ⟨u60, us60, rfl, ⟨c1, rfl, _⟩, g60⟩ := g59.cons_inv
  obtain ⟨u61, us61, rfl, ⟨c2, rfl, _⟩, g61⟩ := g60.cons_inv
  obtain ⟨u62, us62, rfl, ⟨c3, rfl, _⟩, g62⟩ := g61.cons_inv
  obtain ⟨u63, us63, rfl, ⟨dep, rfl, q_dep⟩, g63⟩ := g62.cons_inv
  obtain ⟨u64, us64, rfl, ⟨what, rfl, q_what⟩, g64⟩ := g63.cons_inv
  obtain ⟨u65, us65, rfl, ⟨sten, rfl, q_sten⟩, g65⟩ := g64.cons_inv
  obtain rfl := g65.nil_inv
  refine ⟨⟨kind, x, y, w, h, ⟨⟨e0, e1, e2, e3⟩, ed, es⟩, ⟨sc, sx, sy, sw, sh, st, ⟨f0, f1, f2, f3, f4, f5, f6⟩, ⟨b0, b1, b2, b3, b4, b5, b6⟩, dt, dw, df, bl, ⟨r0, r1, r2⟩, ⟨a0, a1, a2⟩, ⟨k0, k1, k2, k3⟩, m0, m1, m2, m3⟩, ⟨fx, fy, fz, fi, ff, ⟨p0, p1, p2, p3⟩, vs⟩, ⟨c0, c1, c2, c3⟩, dep, what, sten⟩, rfl, ⟨r64_of q_kind, r64_of q_x, r64_of q_y, r64_of q_w, r64_of q_h, ?_, r32_of q_ed, r64_of q_es, r32_of q_dep, r64_of q_what, r64_of q_sten, by rcases hvs with rfl | ⟨a, n, c, rfl, _⟩ <;> rfl⟩⟩
  intro z hz
  simp only [V4.L, List.mem_cons, List.not_mem_nil, or_false] at hz
  rcases hz with rfl | rfl | rfl | rfl
  · exact r32_of q_e0
  · exact r32_of q_e1
  · exact r32_of q_e2
  · exact r32_of q_e3
theorem opIn {W : World} {v : Value} (h : ArgIs Try.prog W 57 v) : ∃ o : Opn, v = .agg o.C.toArray ∧ o.Wf := by
  obtain ⟨cs, rfl, g0⟩ := h.agg 8 (ls := opLs) (by kernel_rfl) (by kernel_rfl) (by kernel_rfl)
  obtain ⟨o, rfl, hw⟩ := op_form g0
  exact ⟨o, rfl, hw⟩
/-- What planes are made of. -/
structure Md where
  (w h f : Int)
  (dep sten any : Bool)
def Md.C (m : Md) : List Value := [.int .i64 m.w, .int .i64 m.h, .int .i64 m.f, .bool m.dep, .bool m.sten, .bool m.any]
theorem mdIn {W : World} {v : Value} (h : ArgIs Try.prog W 23 v) : ∃ m : Md, v = .agg m.C.toArray ∧ R64 m.w ∧ R64 m.h ∧ R64 m.f := by
  obtain ⟨cs, rfl, g0⟩ := h.agg 4 (ls := [.int .i64, .int .i64, .int .i64, .bool, .bool, .bool]) (by kernel_rfl) (by kernel_rfl) (by kernel_rfl)
  obtain ⟨u0, us, rfl, ⟨a, rfl, ha⟩, g1⟩ := g0.cons_inv
  obtain ⟨u1, us, rfl, ⟨b, rfl, hb⟩, g2⟩ := g1.cons_inv
  obtain ⟨u2, us, rfl, ⟨c, rfl, hc⟩, g3⟩ := g2.cons_inv
  obtain ⟨u3, us, rfl, ⟨d, rfl⟩, g4⟩ := g3.cons_inv
  obtain ⟨u4, us, rfl, ⟨e, rfl⟩, g5⟩ := g4.cons_inv
  obtain ⟨u5, us, rfl, ⟨f, rfl⟩, g6⟩ := g5.cons_inv
  obtain rfl := g6.nil_inv
  exact ⟨⟨a, b, c, d, e, f⟩, rfl, r64_of ha, r64_of hb, r64_of hc⟩
def OpAt (w : World) (b : Nat) (o : Opn) : Prop := w.heap[b]? = some (.cells o.C.toArray 57 (0, 0))
theorem OpAt.ext {w w' : World} {b : Nat} {o : Opn} (h : OpAt w b o) (x : Ext w w') : OpAt w' b o := x.heap h
theorem Ld_Fr (v : Value) : Instr.loadAt 55 v = @Classical.epsilon _ neV (LdP 55 v) := Ld_fold _ _
theorem OpAt.loadC {w : World} {b : Nat} {o : Opn} (h : OpAt w b o) : (@Classical.epsilon _ neV (LdP 45 (.pointer (some ⟨b, 5, none⟩)))).run Try.prog w = .ok (.agg o.ce.C.toArray) w :=
  ld_ok _ (range_cells h (fun j v hv => by
    have hj : j < 6 := (List.getElem?_eq_some_iff.1 hv).1
    have : j = 0 ∨ j = 1 ∨ j = 2 ∨ j = 3 ∨ j = 4 ∨ j = 5 := by omega
    rcases this with rfl | rfl | rfl | rfl | rfl | rfl <;> exact hv)) Try.underlying45 rfl (by kernel_rfl)
theorem opst (o : Opn) (j : Nat) (hj : j < 38) : o.C[11 + j]? = o.st.C[j]? := by
  have e : o.C = ([.int .i64 o.kind, .int .i64 o.x, .int .i64 o.y, .int .i64 o.w, .int .i64 o.h] ++ o.ce.C) ++ (o.st.C ++ (o.fr.C ++ o.col.C ++ [.int .i32 o.dep, .int .i64 o.what, .int .i64 o.sten])) := by simp [Opn.C]
  rw [e, List.getElem?_append_right (by simp [Ce.C, V4.C]), List.getElem?_append_left (by show 11 + j - 11 < 38; omega)]
  congr 1
  show 11 + j - 11 = j
  omega
theorem OpAt.loadS {w : World} {b : Nat} {o : Opn} (h : OpAt w b o) : (@Classical.epsilon _ neV (LdP 42 (.pointer (some ⟨b, 11, none⟩)))).run Try.prog w = .ok (.agg o.st.C.toArray) w :=
  ld_ok _ (range_cells h (fun j v hv => by
    have hj : j < 38 := (List.getElem?_eq_some_iff.1 hv).1
    rw [opst o j hj]
    exact hv)) Try.underlying42 rfl rfl
theorem OpAt.loadF {w : World} {b : Nat} {o : Opn} (h : OpAt w b o) : (@Classical.epsilon _ neV (LdP 55 (.pointer (some ⟨b, 49, none⟩)))).run Try.prog w = .ok (.agg o.fr.C.toArray) w :=
  ld_ok _ (range_cells h (fun j v hv => by
    have hj : j < 10 := (List.getElem?_eq_some_iff.1 hv).1
    have : j = 0 ∨ j = 1 ∨ j = 2 ∨ j = 3 ∨ j = 4 ∨ j = 5 ∨ j = 6 ∨ j = 7 ∨ j = 8 ∨ j = 9 := by omega
    rcases this with rfl | rfl | rfl | rfl | rfl | rfl | rfl | rfl | rfl | rfl <;> exact hv)) Try.underlying55 rfl (by kernel_rfl)
theorem OpAt.loadV {w : World} {b : Nat} {o : Opn} (h : OpAt w b o) : (@Classical.epsilon _ neV (LdP 26 (.pointer (some ⟨b, 59, none⟩)))).run Try.prog w = .ok (.agg o.col.C.toArray) w :=
  ld_ok _ (range_cells h (fun j v hv => by
    have hj : j < 4 := (List.getElem?_eq_some_iff.1 hv).1
    have : j = 0 ∨ j = 1 ∨ j = 2 ∨ j = 3 := by omega
    rcases this with rfl | rfl | rfl | rfl <;> exact hv)) Try.underlying26 rfl (by kernel_rfl)
end Go.Proofs.Ytgdcdkajicgliaa
