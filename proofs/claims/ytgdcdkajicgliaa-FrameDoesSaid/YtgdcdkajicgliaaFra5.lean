/- What frame's cells tells: the cells of a box, row by row. Conditions: each theorem's own premises. -/
import Derived.Test.YtgdcdkajicgliaaFra4
import Derived.Test.YtgdcdkajicgliaaRgs
namespace Go.Proofs.Ytgdcdkajicgliaa
open Go.RowKit
set_option linter.unusedVariables false
set_option maxRecDepth 100000

/-- A box. -/
structure Bx where
  (x y w h : Int)
def Bx.C (b : Bx) : Array Value := #[.int .i64 b.x, .int .i64 b.y, .int .i64 b.w, .int .i64 b.h]
def inX (b : Bx) (x y : Nat) : Bool := wiV x b.x b.w && wiV y b.y b.h
/-- The cells of a row from the left on, before x. -/
def boxR (b : Bx) (y n : Nat) : List (Nat × Nat) := ((List.range n).filter fun x => inX b x y).map fun x => (x, y)
/-- The cells of the rows before y. -/
def boxB (b : Bx) (W n : Nat) : List (Nat × Nat) := (List.range n).flatMap fun y => boxR b y W
theorem boxR_yes {b : Bx} {y n : Nat} (h : inX b n y = true) : boxR b y (n + 1) = boxR b y n ++ [(n, y)] := by
  unfold boxR
  rw [List.range_succ, List.filter_append, List.map_append]
  simp [h]
theorem boxR_no {b : Bx} {y n : Nat} (h : inX b n y = false) : boxR b y (n + 1) = boxR b y n := by
  unfold boxR
  rw [List.range_succ, List.filter_append, List.map_append]
  simp [h]
theorem boxB_succ (b : Bx) (W n : Nat) : boxB b W (n + 1) = boxB b W n ++ boxR b n W := by
  unfold boxB
  rw [List.range_succ, List.flatMap_append]
  simp
theorem boxR_pre (b : Bx) (y n : Nat) : ∀ k, ∃ r, boxR b y (n + k) = boxR b y n ++ r
  | 0 => ⟨[], by simp⟩
  | k + 1 => by
    obtain ⟨r, hr⟩ := boxR_pre b y n k
    cases h : inX b (n + k) y
    · exact ⟨r, by rw [← Nat.add_assoc, boxR_no h, hr]⟩
    · exact ⟨r ++ [(n + k, y)], by rw [← Nat.add_assoc, boxR_yes h, hr, List.append_assoc]⟩
theorem boxB_pre (b : Bx) (W n : Nat) : ∀ k, ∃ r, boxB b W (n + k) = boxB b W n ++ r
  | 0 => ⟨[], by simp⟩
  | k + 1 => by
    obtain ⟨r, hr⟩ := boxB_pre b W n k
    exact ⟨r ++ boxR b (n + k) W, by rw [← Nat.add_assoc, boxB_succ, hr, List.append_assoc]⟩
/-- How many were told before a cell. -/
def boxN (b : Bx) (W y x : Nat) : Nat := (boxB b W y ++ boxR b y x).length
theorem box_at {b : Bx} {W H x y : Nat} (hx : x < W) (hy : y < H) (h : inX b x y = true) : (boxB b W H)[boxN b W y x]? = some (x, y) ∧ boxN b W y x < (boxB b W H).length ∧ boxN b W y (x + 1) = boxN b W y x + 1 := by
  obtain ⟨r1, h1⟩ := boxR_pre b y (x + 1) (W - (x + 1))
  obtain ⟨r2, h2⟩ := boxB_pre b W (y + 1) (H - (y + 1))
  rw [show x + 1 + (W - (x + 1)) = W by omega, boxR_yes h] at h1
  rw [show y + 1 + (H - (y + 1)) = H by omega, boxB_succ, h1] at h2
  have e : boxB b W H = (boxB b W y ++ boxR b y x) ++ ((x, y) :: (r1 ++ r2)) := by rw [h2]; simp
  refine ⟨?_, ?_, ?_⟩
  · rw [e, boxN, List.getElem?_append_right (Nat.le_refl _)]
    simp
  · rw [e, boxN, List.length_append]
    simp
  · unfold boxN
    rw [boxR_yes h]
    simp
    omega
theorem boxN_no {b : Bx} {W x y : Nat} (h : inX b x y = false) : boxN b W y (x + 1) = boxN b W y x := by unfold boxN; rw [boxR_no h]
theorem boxN_row (b : Bx) (W y : Nat) : boxN b W (y + 1) 0 = boxN b W y W := by
  unfold boxN
  rw [boxB_succ]
  simp [boxR]
theorem boxN_end (b : Bx) (W H : Nat) : boxN b W H 0 = (boxB b W H).length := by
  unfold boxN
  simp [boxR]
theorem boxN_zero (b : Bx) (W : Nat) : boxN b W 0 0 = 0 := rfl
def cS (s2 s3 : Nat) (k : Nat) : Prop := k = s2 ∨ k = s3
set_option maxHeartbeats 4000000 in
theorem cells_tells (s2 s3 W H : Nat) (b : Bx) (w : World) (hs : w.heap[s2]? = some (.cells #[.int .i64 W, .int .i64 H] 117 (0, 0))) (hb : w.heap[s3]? = some (.cells b.C 35 (0, 0))) (hW : W ≤ 64) (hH : H ≤ 64) :
    Tells Try.prog 89 #[.pointer (some ⟨s2, 0, none⟩), .pointer (some ⟨s3, 0, none⟩)] (boxB b W H).length (cS s2 s3) (fun k args _ => ∃ q : Nat × Nat, (boxB b W H)[k]? = some q ∧ args = #[.int .i64 q.1, .int .i64 q.2]) w := by
  intro lp J Jx W0 hW0 hJ hJx hY h0
  have HS := Lib.hid hs
  have HB := Lib.hid hb
  have HK0 := Lib.hid (Ext.kept (S := cS s2 s3) (show Ext w W0 from hW0))
  have e1 : W0.cell? ⟨s2, 1, none⟩ = some (.int .i64 H) := cell_of_heap (HK0.out.heap (.inl rfl) hs) rfl
  have n1 := heap_lt (HK0.out.heap (.inl rfl) hs)
  have HY := Lib.hid hY
  clear hs hb hW0 hY
  refine callsIn_of_wp Try.func89 rfl trivial ?_ rfl
  refine (wpIn_wide (n := 8)).2 ?_
  simp only [Try.ntmps89, List.size_toArray, List.length_cons, List.length_nil, Nat.reduceAdd, Nat.reduceSub, Array.replicate_succ, Array.replicate_zero, List.push_toArray, List.append_toArray, List.nil_append, List.cons_append]
  go_wp2_with fail
  go_loopw [8] (fun i wr => ∃ y : Nat, y ≤ H ∧ i = .int .i64 y ∧ Hid (J (boxN b W y 0) wr ∧ Kept (cS s2 s3) w wr)) (fun i _ => (H - (intOf i).toNat))
  case atStart => exact ⟨0, Nat.zero_le _, rfl, Lib.hid ⟨h0, HK0.out⟩⟩
  case round =>
    rename World => wr
    obtain ⟨y, hy, rfl, HH⟩ := hrel
    by_cases hlt : y < H
    · have hyi : (y : Int) < (H : Int) := by omega
      have hk := HH.out.2
      have e0 : wr.cell? ⟨s2, 0, none⟩ = some (.int .i64 W) := cell_of_heap (hk.heap (.inl rfl) HS.out) rfl
      have n0 := heap_lt (hk.heap (.inl rfl) HS.out)
      clear hk
      go_wp2_with fail
      go_loopw [13] (fun i wq => ∃ x : Nat, x ≤ W ∧ i = .int .i64 x ∧ Hid (J (boxN b W y x) wq ∧ Kept (cS s2 s3) w wq)) (fun i _ => (W - (intOf i).toNat))
      case atStart => exact ⟨0, Nat.zero_le _, rfl, HH⟩
      case round =>
        rename World => wq
        obtain ⟨x, hx, rfl, HQ⟩ := hrel
        by_cases hlx : x < W
        · have hxi : (x : Int) < (W : Int) := by omega
          have hk := HQ.out.2
          have c0 : wq.cell? ⟨s3, 0, none⟩ = some (.int .i64 b.x) := cell_of_heap (hk.heap (.inr rfl) HB.out) rfl
          have c1 : wq.cell? ⟨s3, 1, none⟩ = some (.int .i64 b.y) := cell_of_heap (hk.heap (.inr rfl) HB.out) rfl
          have c2 : wq.cell? ⟨s3, 2, none⟩ = some (.int .i64 b.w) := cell_of_heap (hk.heap (.inr rfl) HB.out) rfl
          have c3 : wq.cell? ⟨s3, 3, none⟩ = some (.int .i64 b.h) := cell_of_heap (hk.heap (.inr rfl) HB.out) rfl
          have nq := heap_lt (hk.heap (.inr rfl) HB.out)
          have HIN := Lib.hid (show inX b x y = (wiV x b.x b.w && wiV y b.y b.h) from rfl)
          have HWX := Lib.hid (within_any x b.x b.w wq)
          have HWY := Lib.hid (within_any y b.y b.h wq)
          obtain ⟨g1, hg1⟩ : ∃ g, wiV x b.x b.w = g := ⟨_, rfl⟩
          obtain ⟨g2, hg2⟩ : ∃ g, wiV y b.y b.h = g := ⟨_, rfl⟩
          rw [hg1] at HWX HIN
          rw [hg2] at HWY HIN
          clear hg1 hg2 hk
          go_upto_region 6 with fail
          refine (wpIn_wide (n := 8)).1 ?_
          cases g1
          · gi_wp2
            refine ⟨trivial, (callsIn_wide (n := 7)).2 (HWX.out.mono ?_)⟩
            rintro _ _ ⟨rfl, rfl⟩
            gi_wp2
            refine ⟨trivial, ?_⟩
            gi_wp2
            refine ⟨fun _ h => (by cases h), ?_⟩
            gi_wp2
            go_wp2_with fail
            go_roundw
            case rel => exact ⟨x + 1, by omega, by go_num, by rw [boxN_no (by rw [HIN.out]; rfl)]; exact HQ⟩
            case measure => simp [intOf]; omega
          · gi_wp2
            refine ⟨trivial, (callsIn_wide (n := 7)).2 (HWX.out.mono ?_)⟩
            rintro _ _ ⟨rfl, rfl⟩
            gi_wp2
            refine ⟨trivial, (callsIn_wide (n := 7)).2 (HWY.out.mono ?_)⟩
            rintro _ _ ⟨rfl, rfl⟩
            cases g2
            · gi_wp2
              refine ⟨fun _ h => (by cases h), ?_⟩
              gi_wp2
              go_wp2_with fail
              go_roundw
              case rel => exact ⟨x + 1, by omega, by go_num, by rw [boxN_no (by rw [HIN.out]; rfl)]; exact HQ⟩
              case measure => simp [intOf]; omega
            · obtain ⟨hat, hln, hsc⟩ := box_at hlx hlt (show inX b x y = true by rw [HIN.out]; rfl)
              obtain ⟨fn, tmps, assign, body, hy', hR⟩ := HY.out (boxN b W y x) #[.int .i64 x, .int .i64 y] wq hln HQ.out.1 ⟨(x, y), hat, rfl⟩
              have HSC := Lib.hid hsc
              clear hat hln hsc
              gi_wp2
              refine hR.mono ?_
              rintro e W3 (⟨rfl, hj3, hk3⟩ | ⟨rfl, hj3⟩)
              · have HX3 : Hid (J (boxN b W y (x + 1)) W3 ∧ Kept (cS s2 s3) w W3) := Lib.hid ⟨by rw [HSC.out]; exact hj3, HQ.out.2.trans hk3⟩
                clear hk3 hj3 hR hy'
                gi_wp2
                go_wp2_with fail
                go_roundw
                case rel => exact ⟨x + 1, by omega, by go_num, HX3⟩
                case measure => simp [intOf]; omega
              · clear hR hy'
                gi_wp2
                go_wp2_with fail
                refine bodyPost_ret (results_none rfl _ _ _) rfl ?_
                exact ⟨⟨_, rfl⟩, .inr hj3⟩
        · obtain rfl : x = W := by omega
          go_wp2_with fail
          go_roundw
          case rel => exact ⟨y + 1, by omega, by go_num, by rw [boxN_row]; exact HQ⟩
          case measure => simp [intOf]; omega
    · obtain rfl : y = H := by omega
      go_wp2_with fail
      go_end0
      exact ⟨⟨_, rfl⟩, .inl (by have := HH.out.1; rwa [boxN_end] at this)⟩
end Go.Proofs.Ytgdcdkajicgliaa
