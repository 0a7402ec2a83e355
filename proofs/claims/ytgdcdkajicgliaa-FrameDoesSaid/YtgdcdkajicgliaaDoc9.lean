/- What the law asks of all cells: told. Conditions: each theorem's own premises. -/
import Derived.Test.YtgdcdkajicgliaaDoc5
import Derived.Test.YtgdcdkajicgliaaOpsEq
import Derived.Test.YtgdcdkajicgliaaFraN
import Derived.Test.YtgdcdkajicgliaaPix8
import Derived.Laws.AppendOwnNone
namespace Go.Proofs.Ytgdcdkajicgliaa
open Go.RowKit
set_option linter.unusedVariables false
set_option linter.unusedSimpArgs false
set_option maxRecDepth 100000

theorem wpList_append_all {P : Program} {w : World} {ops : Array Oper} {rest : List Oper} {o : Oper} {a : Act} {Q : Exit → Act → World → Prop} (hgd : o.guard = none) (s x : Operand) (t : TypeId)
    (ho : o.op = .call { callee := .builtin .append, args := #[s, x], argTypes := #[t, t] })
    (base : Nat) (e : TypeId) (i : TypeInfo) (z : Value) (size bytes : Nat) (ht : P.underlying t = some (.slice e)) (hi : P.info? e = some i) (hz : i.zero = some z)
    (hsize : i.size = size) (hby : i.bytes = bytes) (hzs : z.cells.size = size) (hsz : 0 < size)
    (v : Value) (n : Nat) (xs : List Value) (hs : a.eval s = v) (hown : w.ownsRow base e size v n xs)
    (m : Nat) (u : Value) (news : List Value) (hx : a.eval x = u) (hu : SlC w u size m news) (h1 : ∀ u ∈ news, u.oneCell' = true)
    (h63 : n + m ≤ maxLen) (hbytes : (n + m) * bytes ≤ 140737488355328) (hbase : base ≤ w.heap.size)
    (h : ∀ v' w', w'.ownsRow base e size v' (n + m) (xs ++ news) → w.grownBy w' v.ownBlock → wpList P ops Q rest (a.put o.dst v') w') : wpList P ops Q (o :: rest) a w := by
  obtain ⟨hlen, ad, cap, rfl, hn, hc, hz0, hp⟩ := hu
  cases ad with
  | none =>
    have hcap := hz0 rfl
    subst hcap
    obtain rfl : m = 0 := by omega
    have hnil : news = [] := List.eq_nil_of_length_eq_zero (by simpa using hlen)
    subst hnil
    exact wpList_append_own_none hgd s x t ho base e i size ht hi v n xs hs hown hx (h v w (by simpa using hown) ⟨rfl, rfl, rfl, Nat.le_refl _, fun _ _ _ => rfl⟩)
  | some d =>
    refine wpList_append_own w hgd s x t ho base e i z size bytes ht hi hz hsize hby hzs hsz v n xs hs hown d m cap news hx hlen (fun j y hj => ?_) h1 h63 hbytes hbase (fun v' w' a1 a2 _ => h v' w' a1 a2)
    have hlt := (List.getElem?_eq_some_iff.1 hj).1
    have hm0 : 0 < m := by
      rcases Nat.eq_zero_or_pos m with h0 | h0
      · subst h0; rw [Nat.zero_mul] at hlen; omega
      · exact h0
    obtain ⟨b, off, hd, _, hcell⟩ := hp hm0
    simp only [Option.some.injEq] at hd
    subst hd
    rw [Addr.add_lit]
    exact hcell j y hj

/-- How many cells are told before a place. -/
def cntT (P : Pl) (jy kx : Nat) : Nat := if jy = 0 then 0 else if jy ≤ P.H then (jy - 1) * P.W + min (kx - 1) P.W else P.H * P.W
theorem cnt_zero (P : Pl) : cntT P 0 0 = 0 := rfl
theorem cnt_row {P : Pl} (hH : 1 ≤ P.H) (jy : Nat) : cntT P jy (P.W + 2) = cntT P (jy + 1) 0 := by
  unfold cntT
  have hmin : min (P.W + 2 - 1) P.W = P.W := by omega
  have hmin0 : min (0 - 1) P.W = 0 := by omega
  rw [hmin, hmin0, if_neg (Nat.succ_ne_zero jy), Nat.add_sub_cancel]
  by_cases h0 : jy = 0
  · rw [if_pos h0, if_pos (by omega), h0, Nat.zero_mul]
  · rw [if_neg h0]
    have e : (jy - 1) * P.W + P.W = jy * P.W := by rw [← Nat.succ_mul]; congr 1; omega
    by_cases h1 : jy ≤ P.H
    · rw [if_pos h1, e]
      by_cases h2 : jy + 1 ≤ P.H
      · rw [if_pos h2, Nat.add_zero]
      · rw [if_neg h2, show jy = P.H by omega]
    · rw [if_neg h1, if_neg (by omega)]
theorem cnt_out {P : Pl} {jy kx : Nat} (h : ¬ ((1 ≤ jy ∧ jy ≤ P.H) ∧ (1 ≤ kx ∧ kx ≤ P.W))) : cntT P jy (kx + 1) = cntT P jy kx := by
  unfold cntT
  split
  · rfl
  · split
    · have : min (kx + 1 - 1) P.W = min (kx - 1) P.W := by omega
      rw [this]
    · rfl
theorem cnt_in {P : Pl} {jy kx : Nat} (h : (1 ≤ jy ∧ jy ≤ P.H) ∧ (1 ≤ kx ∧ kx ≤ P.W)) : cntT P jy kx = (jy - 1) * P.W + (kx - 1) ∧ cntT P jy (kx + 1) = (jy - 1) * P.W + (kx - 1) + 1 := by
  unfold cntT
  rw [if_neg (by omega), if_pos h.1.2, if_neg (by omega), if_pos h.1.2]
  have e1 : min (kx - 1) P.W = kx - 1 := by omega
  have e2 : min (kx + 1 - 1) P.W = kx - 1 + 1 := by omega
  rw [e1, e2]
  exact ⟨rfl, rfl⟩
theorem cnt_end (P : Pl) : cntT P (P.H + 2) 0 = P.H * P.W := by
  unfold cntT
  rw [if_neg (by omega), if_neg (by omega)]
theorem take_col {P : Pl} (h : P.Ok) {i : Nat} (hi : i < P.W * P.H) : P.col.take ((i + 1) * szN P.F) = P.col.take (i * szN P.F) ++ colAt P i := by
  unfold colAt
  rw [Nat.succ_mul, List.take_add]
section
attribute [local go_sem ↓] Ld_Bt St_Bt Ld_Ce St_Ce Ld_V4 Ld_Dp St_Dp
set_option maxHeartbeats 4000000 in
theorem dtold_any (G : Nat → Prop) (B : Pb) (P : Pl) (v : Value) (L : List Bt) (w : World) (hp : PlAt w B P) (h : DAt G w v P L) : Calls Try.prog 38 #[.pointer (some ⟨B.p, 0, none⟩), .agg (P.D v).toArray] w fun e w' => e = .returned (.bool true) ∧ Ext w w' := by
  obtain ⟨i1, hi1, hy0, hy1, hy2⟩ := info_parts info_u8'
  have hok := h.ok
  have hW := h.ok.w2
  have hH := h.ok.h2
  have hW1 := h.ok.w1
  have hH1 := h.ok.h1
  have HOK := Lib.hid h.ok
  have HPL := Lib.hid hp
  have HH := Lib.hid h
  have HIN := Lib.hid (fun x y w => din_any P v x y w)
  obtain ⟨w1, hw1, h1, hx1⟩ : ∃ w1, w.alloc (.cells (P.D v).toArray 76) = w1 ∧ DpAt w1 w.heap.size P v ∧ Ext w w1 := ⟨_, rfl, heap_alloc_new _ _, (Ext.refl _).alloc _⟩
  have HP1 := Lib.hid h1
  have HX1 := Lib.hid hx1
  clear h h1 hx1 hp hok
  go_enter Try.func38, Try.ntmps38
  go_upto_region 1 with fail
  try rw [hw1]
  obtain ⟨r, hr⟩ : ∃ r, w.heap.size = r := ⟨_, rfl⟩
  rw [hr] at HP1
  rw [hr]
  have HR := Lib.hid hr
  clear hw1 hr
  obtain ⟨bse, hbse⟩ : ∃ bse, w1.heap.size = bse := ⟨_, rfl⟩
  have HBS : Hid (w1.heap.size = bse ∧ r < bse) := Lib.hid ⟨hbse, by have := heap_lt HP1.out; omega⟩
  clear hbse
  go_wp2_with fail
  go_loopw [6, 5] (fun i u wr => ∃ j : Nat, j ≤ P.H + 2 ∧ i = .int .i64 ((j : Int) - 1) ∧ Hid (wr.ownsRow bse 5 1 u (cntT P j 0 * szN P.F) ((P.col.take (cntT P j 0 * szN P.F)).map (Value.int .u8)) ∧ Ext w1 wr)) (fun i _ _ => (P.H + 1 - intOf i).toNat)
  case atStart => exact ⟨0, Nat.zero_le _, rfl, Lib.hid ⟨by rw [cnt_zero, Nat.zero_mul]; exact World.ownsRow_nil _ _ _ _, Ext.refl _⟩⟩
  case round =>
    rename World => wr
    obtain ⟨j, hj, rfl, HJ⟩ := hrel
    obtain ⟨yz, hyz⟩ : ∃ yz, (j : Int) - 1 = yz := ⟨_, rfl⟩
    rw [hyz]
    have c1 : wr.cell? ⟨r, 1, none⟩ = some (.int .i64 P.H) := cell_of_heap (HJ.out.2.heap HP1.out) rfl
    have n1 := heap_lt (HJ.out.2.heap HP1.out)
    by_cases hlt : j < P.H + 2
    · have hji : yz ≤ (P.H : Int) := by omega
      go_wp2_with fail
      go_loopw [7, 5] (fun i u wq => ∃ k : Nat, k ≤ P.W + 2 ∧ i = .int .i64 ((k : Int) - 1) ∧ Hid (wq.ownsRow bse 5 1 u (cntT P j k * szN P.F) ((P.col.take (cntT P j k * szN P.F)).map (Value.int .u8)) ∧ Ext w1 wq)) (fun i _ _ => (P.W + 1 - intOf i).toNat)
      case atStart => exact ⟨0, Nat.zero_le _, rfl, HJ⟩
      case round =>
        rename World => wq
        clear c1 n1 HJ
        obtain ⟨k, hk, rfl, HK⟩ := hrel
        obtain ⟨xz, hxz⟩ : ∃ xz, (k : Int) - 1 = xz := ⟨_, rfl⟩
        rw [hxz]
        have c0 : wq.cell? ⟨r, 0, none⟩ = some (.int .i64 P.W) := cell_of_heap (HK.out.2.heap HP1.out) rfl
        have n1 := heap_lt (HK.out.2.heap HP1.out)
        by_cases hltk : k < P.W + 2
        · have hki : xz ≤ (P.W : Int) := by omega
          have hwk : IntKind.i64.wrap (xz + 1) = xz + 1 := IntWalk.i64_in _ (by omega)
          have HPQ := Lib.hid (HPL.out.ext (HX1.out.trans HK.out.2))
          obtain ⟨bI, hbI⟩ : ∃ bI, inP P.W P.H xz yz = bI := ⟨_, rfl⟩
          have HI1 := Lib.hid (fun w => HIN.out xz yz w)
          rw [hbI] at HI1
          cases bI
          · have HCO := Lib.hid (cellp_out B P xz yz hbI wq HPQ.out)
            have hno : ¬ ((1 ≤ j ∧ j ≤ P.H) ∧ (1 ≤ k ∧ k ≤ P.W)) := by
              intro hh
              have : inP P.W P.H xz yz = true := by unfold inP; simp; omega
              rw [hbI] at this
              cases this
            have HNO := Lib.hid (cnt_out hno)
            clear hbI hno
            have heq : ∀ w, (Op.equalIn 10000 45 (.agg ceZ.C.toArray) (.agg #[.int .i32 0, .int .i32 0, .int .i32 0, .int .i32 0, .int .i32 0, .int .i64 0])).run Try.prog w = .ok true w := fun w => by rw [eqCz]; rfl
            go_upto_region 9 with (go_at_call 16; refine HCO.out.mono ?_; rintro _ w5 ⟨rfl, hx5⟩; obtain ⟨w6, hst6, h6, hx6⟩ := newCz w5 ceZ)
            obtain ⟨bc, hbc⟩ : ∃ bc, w5.heap.size = bc := ⟨_, rfl⟩
            rw [hbc] at h6
            rw [hbc]
            have HX6 := Lib.hid (hx5.trans hx6)
            have H6 := Lib.hid h6
            have lp := DpAt.load (show DpAt w6 r P v from HX6.out.heap (HK.out.2.heap HP1.out))
            have nr := heap_lt (HX6.out.heap (HK.out.2.heap HP1.out))
            clear hst6 hx5 hx6 h6 hbc
            go_upto_region 10 with (go_at_call 31; refine (HI1.out _).mono ?_; rintro _ w7 ⟨rfl, hx7⟩)
            have lc := CAt.load2 (H6.out.ext hx7)
            have nc := heap_lt (H6.out.ext hx7)
            have HFIN : Hid (w7.ownsRow bse 5 1 u5 (cntT P j (k + 1) * szN P.F) ((P.col.take (cntT P j (k + 1) * szN P.F)).map (Value.int .u8)) ∧ Ext w1 w7) := Lib.hid (by rw [HNO.out]; exact ⟨owns_ext HK.out.1 (HX6.out.trans hx7), HK.out.2.trans (HX6.out.trans hx7)⟩)
            clear lp nr hx7
            go_wp2_with fail
            go_roundw
            case rel => exact ⟨k + 1, by omega, by congr 1; omega, HFIN⟩
            case measure => simp [intOf]; omega
          · obtain ⟨i1', i2', i3', i4'⟩ := inP_true hbI
            obtain ⟨X, rfl⟩ : ∃ X : Nat, xz = X := ⟨xz.toNat, by omega⟩
            obtain ⟨Y, rfl⟩ : ∃ Y : Nat, yz = Y := ⟨yz.toNat, by omega⟩
            have hXW : X < P.W := by omega
            have hYH : Y < P.H := by omega
            have HCO := Lib.hid (cellp_in B P X Y hXW hYH wq HPQ.out)
            obtain ⟨hc1, hc2⟩ := cnt_in (P := P) (jy := j) (kx := k) ⟨⟨by omega, by omega⟩, by omega, by omega⟩
            rw [show j - 1 = Y by omega, show k - 1 = X by omega] at hc1 hc2
            have HDC := Lib.hid (fun w' h' => dcell_any G P v L X Y hXW hYH w' h')
            have hin := place_lt hXW hYH
            have hmul : Y * P.W ≤ 64 * 64 := Nat.mul_le_mul (by omega) hW
            have s1 : IntKind.i64.wrap ((Y : Int) * (P.W : Int)) = ((Y * P.W : Nat) : Int) := by rw [← Int.natCast_mul]; exact IntWalk.i64_in _ (by omega)
            have s2 : IntKind.i64.wrap (((Y * P.W : Nat) : Int) + (X : Int)) = ((Y * P.W + X : Nat) : Int) := by rw [← Int.natCast_add]; exact IntWalk.i64_in _ (by omega)
            obtain ⟨i, hi⟩ : ∃ i, Y * P.W + X = i := ⟨_, rfl⟩
            rw [hi] at hin HCO HDC hc1 hc2 s2
            obtain ⟨yw, hyw⟩ : ∃ yw, Y * P.W = yw := ⟨_, rfl⟩
            rw [hyw] at s1 s2
            have HC := Lib.hid (And.intro hc1 hc2)
            have HI := Lib.hid hin
            obtain ⟨ce, hce⟩ : ∃ ce, cellV P i = ce := ⟨_, rfl⟩
            rw [hce] at HCO HDC
            have heq : ∀ w, (Op.equalIn 10000 45 (.agg ce.C.toArray) (.agg ce.C.toArray)).run Try.prog w = .ok true w := fun w => by rw [eqC]; simp
            clear hbI i1' i2' i3' i4' hXW hYH hc1 hc2 hin hmul hyw hi hce
            go_upto_region 9 with (go_at_call 16; refine HCO.out.mono ?_; rintro _ w5 ⟨rfl, hx5⟩; obtain ⟨w6, hst6, h6, hx6⟩ := newCz w5 ce)
            obtain ⟨bc, hbc⟩ : ∃ bc, w5.heap.size = bc := ⟨_, rfl⟩
            rw [hbc] at h6
            rw [hbc]
            have HX6 := Lib.hid (hx5.trans hx6)
            have H6 := Lib.hid h6
            have lp := DpAt.load (show DpAt w6 r P v from HX6.out.heap (HK.out.2.heap HP1.out))
            have nr := heap_lt (HX6.out.heap (HK.out.2.heap HP1.out))
            clear hst6 hx5 hx6 h6 hbc
            go_upto_region 12 with (go_at_call 31; refine (HI1.out _).mono ?_; rintro _ w7 ⟨rfl, hx7⟩)
            have HX7 := Lib.hid (HX6.out.trans hx7)
            have H7 := Lib.hid (H6.out.ext hx7)
            clear lp nr hx7
            have HKEEP : Hid (∀ w', Ext w7 w' → (@Classical.epsilon _ neV (LdP 45 (.pointer (some ⟨bc, 0, none⟩)))).run Try.prog w' = .ok (.agg ce.C.toArray) w' ∧ (@Classical.epsilon _ neF (LdF 76 (.pointer (some ⟨r, 0, none⟩)))).run Try.prog w' = .ok (.agg (P.D v).toArray) w') := Lib.hid fun w' x' => ⟨CAt.load2 (H7.out.ext x'), DpAt.load (x'.heap (HX7.out.heap (HK.out.2.heap HP1.out)))⟩
            have nc := heap_lt H7.out
            have nr := heap_lt (HX7.out.heap (HK.out.2.heap HP1.out))
            have X0 := Lib.hid (show Ext w7 w7.drew from (Ext.refl _).drew)
            go_region_held3 (fun w' => (@Classical.epsilon _ neV (LdP 45 (.pointer (some ⟨bc, 0, none⟩)))).run Try.prog w' = .ok (.agg ce.C.toArray) w' ∧ (@Classical.epsilon _ neF (LdF 76 (.pointer (some ⟨r, 0, none⟩)))).run Try.prog w' = .ok (.agg (P.D v).toArray) w') (first | exact HKEEP.out _ X0.out | exact HKEEP.out _ X8.out | exact HKEEP.out _ (Ext.refl _)) (first
              | (go_at_call 74; refine (HDC.out _ (HH.out.ext (((HX1.out.trans HK.out.2).trans HX7.out).trans X0.out))).mono ?_; rintro _ w8 ⟨rfl, hx8⟩; have X8 := Lib.hid (X0.out.trans hx8))
              | (go_at_call 74; refine (HDC.out _ (HH.out.ext ((HX1.out.trans HK.out.2).trans HX7.out))).mono ?_; rintro _ w8 ⟨rfl, hx8⟩; have X8 := Lib.hid hx8))
            have h8 := HH.out.ext ((HX1.out.trans HK.out.2).trans (HX7.out.trans X8.out))
            obtain ⟨b, hb⟩ : ∃ b, L[i]? = some b := ⟨_, List.getElem?_eq_getElem (by rw [h8.l]; exact HI.out)⟩
            have hr8 := h8.r
            obtain ⟨_, va, vcap, hv, _⟩ := h8.r
            rw [hv] at hr8
            obtain ⟨g, off, rfl, hg, _, hcell⟩ := bt_get hr8 rfl hb
            have hpa := (HX7.out.trans X8.out).heap (HK.out.2.heap HP1.out)
            have d0 : w8.cell? ⟨r, 0, none⟩ = some (.int .i64 P.W) := cell_of_heap hpa rfl
            have d5 : w8.cell? ⟨r, 5, none⟩ = some (.slice (some ⟨g, off, none⟩) L.length vcap) := by rw [← hv]; exact cell_of_heap hpa rfl
            have nr8 := heap_lt hpa
            have hli : (i : Int) < (L.length : Int) := by rw [h8.l]; have := HI.out; omega
            have hi0 : (0 : Int) ≤ (i : Int) := by omega
            have HBC := Lib.hid (h8.c i b hb)
            have HCL := Lib.hid (colAt_len h8.ok HI.out)
            have HOW := Lib.hid (owns_ext HK.out.1 (HX7.out.trans X8.out))
            rw [HC.out.1] at HOW
            have HSL := Lib.hid HBC.out.1
            rw [HCL.out] at HSL
            have HONE : Hid (∀ z ∈ (colAt P i).map (Value.int .u8), z.oneCell' = true) := Lib.hid (by intro z hz; obtain ⟨q, _, rfl⟩ := List.mem_map.1 hz; rfl)
            have HBD : Hid (i < 4096 ∧ szN P.F ≤ 4 ∧ i * szN P.F ≤ 4096 * 4) := Lib.hid (by
              have h1 := HI.out
              have h2 := Nat.mul_le_mul hW hH
              have h3 := (szN_bd P.F).2
              have h4 : i < 4096 := by omega
              exact ⟨h4, h3, Nat.mul_le_mul (by omega) h3⟩)
            have HB8 : Hid (bse ≤ w8.heap.size) := Lib.hid (by have h1 := HBS.out; have h2 := HK.out.2.size; have h3 := HX7.out.size; have h4 := X8.out.size; omega)
            clear h8 hr8 hv hpa hb nc nr HKEEP hx8
            go_wp2_with (at_builtin; refine wpList_append_all rfl _ _ 48 rfl bse 5 i1 (.int .u8 0) 1 1 Try.underlying48 hi1 hy0 hy1 hy2 rfl (by decide) u5 (i * szN P.F) ((P.col.take (i * szN P.F)).map (Value.int .u8)) rfl HOW.out (szN P.F) b.c ((colAt P i).map (Value.int .u8)) rfl HSL.out HONE.out (by have := HBD.out; unfold maxLen; omega) (by have := HBD.out; omega) HB8.out ?_; intro v9 w9 hown9 hgrow9; have HFIN : Hid (w9.ownsRow bse 5 1 v9 (cntT P j (k + 1) * szN P.F) ((P.col.take (cntT P j (k + 1) * szN P.F)).map (Value.int .u8)) ∧ Ext w1 w9) := Lib.hid ⟨by rw [HC.out.2, take_col HOK.out HI.out, List.map_append, Nat.succ_mul]; exact hown9, (HK.out.2.trans (HX7.out.trans X8.out)).grown hgrow9 (fun q hq => by have h1 := owns_base HOW.out q hq; have h2 := HBS.out; omega)⟩)
            go_roundw
            case rel => exact ⟨k + 1, by omega, by congr 1; omega, HFIN⟩
            case measure => simp [intOf]; omega
        · obtain rfl : k = P.W + 2 := by omega
          have hki : ¬ xz ≤ (P.W : Int) := by omega
          have hwj : IntKind.i64.wrap (yz + 1) = yz + 1 := IntWalk.i64_in _ (by omega)
          go_wp2_with fail
          go_roundw
          case rel => exact ⟨j + 1, by omega, by congr 1; omega, by rw [← cnt_row hH1]; exact HK⟩
          case measure => simp [intOf]; omega
    · obtain rfl : j = P.H + 2 := by omega
      have hji : ¬ yz ≤ (P.H : Int) := by omega
      have hbp := HJ.out.1
      have HBY := Lib.hid (bytesp_any B P wr (HPL.out.ext (HX1.out.trans HJ.out.2)))
      have hcol := HOK.out.col
      have HFU : Hid (Ints .u8 wr u5 P.col) := Lib.hid (by
        have h1 := HJ.out.1
        rw [cnt_end] at h1
        have hfull : P.col.take (P.H * P.W * szN P.F) = P.col := List.take_of_length_le (by rw [hcol, Nat.mul_comm P.H]; exact Nat.le_refl _)
        rw [hfull] at h1
        exact Ints.owned h1 (HOK.out.colw))
      clear hbp hcol
      go_wp2_with (first | (go_at_call 20; refine HBY.out.mono ?_; rintro _ w8 ⟨pa, pc, rfl, hpi, _, hx8⟩) | (go_at_call 36; refine (same_any _ _ _ _ _ hpi (HFU.out.ext hx8)).mono ?_; rintro _ w9 ⟨rfl, hx9⟩))
      go_ret
      exact ⟨by simp, ((HX1.out.trans HJ.out.2).trans hx8).trans hx9⟩
end
end Go.Proofs.Ytgdcdkajicgliaa
