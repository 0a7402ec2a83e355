/- Pixel's formats as data; find at whatever format. Conditions: each theorem's own premises. -/
import Derived.Test.YtgdcdkajicgliaaPix3
import Derived.Deep.RegionHeld3
namespace Go.Proofs.Ytgdcdkajicgliaa
open Go.RowKit
set_option linter.unusedVariables false
set_option maxRecDepth 100000

/-- The number of bytes, the lowest first. -/
def leN : List Int → Int
  | [] => 0
  | b :: l => b + 256 * leN l
theorem leN_bound : ∀ (l : List Int), (∀ z ∈ l, 0 ≤ z ∧ z < 256) → 0 ≤ leN l ∧ leN l < 256 ^ l.length
  | [], _ => by simp [leN]
  | b :: l, h => by
    have h1 := leN_bound l fun z hz => h z (by simp [hz])
    have h2 := h b (by simp)
    simp only [leN, List.length_cons, Int.pow_succ]
    omega
theorem leN_snoc : ∀ (l : List Int) (b : Int), leN (l ++ [b]) = leN l + b * 256 ^ l.length
  | [], b => by simp [leN]
  | c :: l, b => by
    simp only [List.cons_append, leN, leN_snoc l b, List.length_cons, Int.pow_succ]
    rw [Int.mul_add, ← Int.add_assoc, ← Int.mul_assoc, Int.mul_comm 256 b, Int.mul_assoc, Int.mul_comm 256 (256 ^ l.length)]
theorem u8_of_wf {z : Int} (h : (Lit.int .u8 z).wf = true) : 0 ≤ z ∧ z < 256 := by
  simp [Lit.wf, IntKind.min, IntKind.max, IntKind.bits, IntKind.signed] at h
  omega
theorem take_snoc_getD (l : List Int) (k : Nat) (h : k < l.length) : l.take (k + 1) = l.take k ++ [l.getD k 0] := by
  rw [List.take_add_one, List.getElem?_eq_getElem h, List.getD_eq_getElem?_getD, List.getElem?_eq_getElem h]
  rfl

/-- A format's channels: where in a colour, how many bits, how far shifted. -/
def chL : Nat → List (Nat × Nat × Nat)
  | 1 => [(0, 8, 0), (1, 8, 8), (2, 8, 16), (3, 8, 24)]
  | 2 => [(0, 5, 11), (1, 6, 5), (2, 5, 0)]
  | 3 => [(0, 4, 12), (1, 4, 8), (2, 4, 4), (3, 4, 0)]
  | 4 => [(0, 5, 11), (1, 5, 6), (2, 5, 1), (3, 1, 0)]
  | 5 => [(0, 8, 0)]
  | 6 => [(3, 8, 0)]
  | 7 => [(0, 8, 0), (3, 8, 8)]
  | _ => []
def restL (n : Nat) : List Int := if n = 2 ∨ n = 5 then [0, 0, 0, 65536] else [0, 0, 0, 0]
def chCells (l : List (Nat × Nat × Nat)) : Array Value := (l.flatMap fun c => [Value.int .i64 (c.1 : Nat), .int .i64 (c.2.1 : Nat), .int .i64 (c.2.2 : Nat)]).toArray
theorem chCells_at (l : List (Nat × Nat × Nat)) : ∀ (m : Nat) (c : Nat × Nat × Nat), l[m]? = some c → (chCells l)[m * 3]? = some (.int .i64 (c.1 : Nat)) ∧ (chCells l)[m * 3 + 1]? = some (.int .i64 (c.2.1 : Nat)) ∧ (chCells l)[m * 3 + 2]? = some (.int .i64 (c.2.2 : Nat)) := by
  unfold chCells
  simp only [List.getElem?_toArray]
  induction l with
  | nil => intro m c h; simp at h
  | cons x l ih =>
    intro m c h
    cases m with
    | zero =>
      simp only [List.getElem?_cons_zero, Option.some.injEq] at h
      subst h
      simp
    | succ m =>
      have := ih m c (by simpa using h)
      rw [show (m + 1) * 3 = m * 3 + 3 by omega]
      simpa [List.flatMap_cons, Nat.add_assoc] using this
/-- What holds of every format's channels. -/
theorem ch_ok (n : Nat) : ∀ c ∈ chL n, c.1 < 4 ∧ 1 ≤ c.2.1 ∧ c.2.1 ≤ 8 ∧ c.2.2 ≤ 24 := by
  have : n = 1 ∨ n = 2 ∨ n = 3 ∨ n = 4 ∨ n = 5 ∨ n = 6 ∨ n = 7 ∨ chL n = [] := by
    unfold chL
    split <;> simp
  rcases this with rfl | rfl | rfl | rfl | rfl | rfl | rfl | h
  iterate 7
    · decide
  rw [h]
  intro c hc
  cases hc
theorem rest_eq (n : Nat) : restL n = [(restL n).getD 0 0, (restL n).getD 1 0, (restL n).getD 2 0, (restL n).getD 3 0] := by
  unfold restL
  split <;> rfl
/-- What Unpack lays. -/
def outU (X : Int) (l : List (Nat × Nat × Nat)) (o : List Int) : List Int := l.foldl (fun o c => o.set c.1 (numV (X / 2 ^ c.2.2 % 2 ^ c.2.1) c.2.1)) o
/-- The colour of bytes. -/
def unpV (n : Nat) (X : Int) : List Int := if n = 5 ∨ n = 7 then [(outU X (chL n) (restL n)).getD 0 0, (outU X (chL n) (restL n)).getD 0 0, (outU X (chL n) (restL n)).getD 0 0, (outU X (chL n) (restL n)).getD 3 0] else outU X (chL n) (restL n)
def vecC (o : List Int) : Array Value := (o.map (Value.int .i32)).toArray
theorem ch_len (n : Nat) : (chL n).length ≤ 4 := by
  unfold chL
  split <;> decide
theorem find_any (n : Nat) (w : World) (h1 : 1 ≤ n) (h7 : n ≤ 7) : Calls Try.prog 85 #[.int .i64 (n : Int)] w fun e w' => ∃ c, e = .returned (.tuple #[.agg #[.int .i64 (szV n), .slice (some ⟨c, 0, none⟩) (chL n).length (chL n).length, .int .i32 ((restL n).getD 0 0), .int .i32 ((restL n).getD 1 0), .int .i32 ((restL n).getD 2 0), .int .i32 ((restL n).getD 3 0)], .bool true]) ∧ w'.heap[c]? = some (.cells (chCells (chL n)) 173 (0, 0)) ∧ w.heap.size ≤ c ∧ Ext w w' := by
  have : n = 1 ∨ n = 2 ∨ n = 3 ∨ n = 4 ∨ n = 5 ∨ n = 6 ∨ n = 7 := by omega
  rcases this with rfl | rfl | rfl | rfl | rfl | rfl | rfl
  · exact find_1 w
  · exact find_2 w
  · exact find_3 w
  · exact find_4 w
  · exact find_5 w
  · exact find_6 w
  · exact find_7 w

theorem and_mask (X b : Nat) (hX : X < 4294967296) (hb : b ≤ 16) : bits .and .u32 (X : Int) (2 ^ b - 1) = (X : Int) % 2 ^ b := by
  have hp : (2 : Nat) ^ b ≤ 65536 := by
    have := Nat.pow_le_pow_right (n := 2) (by decide) hb
    simpa using this
  have h0 : 0 < (2 : Nat) ^ b := Nat.pow_pos (by decide)
  have hm : ((2 : Int) ^ b - 1) = (((2 ^ b - 1 : Nat)) : Int) := by
    rw [Int.ofNat_sub h0]
    simp
  rw [hm, (bits_nat .u32 32 (by decide) wraps_u32 X (2 ^ b - 1) hX (by omega)).1, Nat.and_two_pow_sub_one_eq_mod]
  simp

theorem mask_core (X : Int) (s b : Nat) (h0 : 0 ≤ X) (h1 : X < 4294967296) (hb : b ≤ 16) :
    bits .and .u32 (X / 2 ^ s) (IntKind.u32.wrap (IntKind.u32.wrap (2 ^ b) - 1)) = X / 2 ^ s % 2 ^ b := by
  have hp : (0 : Int) < 2 ^ s := Int.pow_pos (by decide)
  have q0 : 0 ≤ X / 2 ^ s := Int.ediv_nonneg h0 (by omega)
  have q1 : X / 2 ^ s ≤ X := Int.ediv_le_self _ h0
  have p1 : (1 : Int) ≤ 2 ^ b := Int.pow_pos (by decide)
  have p2 : (2 : Int) ^ b ≤ 65536 := by
    have : (2 : Int) ^ b ≤ 2 ^ 16 := by exact_mod_cast Nat.pow_le_pow_right (by decide) hb
    simpa using this
  rw [wraps_u32 (2 ^ b) (by omega) (by omega), wraps_u32 (2 ^ b - 1) (by omega) (by omega)]
  obtain ⟨Y, hY⟩ := Int.eq_ofNat_of_zero_le q0
  rw [hY]
  exact and_mask Y b (by omega) hb
theorem info_vec : (Try.prog.info? 26).map (·.size) = some 4 := by kernel_rfl

set_option maxHeartbeats 1000000 in
set_option maxRecDepth 20000 in
theorem unpack_any (n : Nat) (v : Value) (zs : List Int) (w : World) (h1 : 1 ≤ n) (h7 : n ≤ 7) (h : Ints .u8 w v zs) (hl : (zs.length : Int) = szV n) : Calls Try.prog 91 #[.int .i64 (n : Int), v] w fun e w' => e = .returned (.tuple #[.agg (vecC (unpV n (leN zs))), .int .i64 0]) ∧ Ext w w' := by
  obtain ⟨hlen, a, cap, rfl, hn, hc, hz, hp⟩ := h.1
  have hfi := Lib.hid (fun w => find_any n w h1 h7)
  have hsz : zs.length ≤ 4 := by unfold szV at hl; omega
  rw [← hl] at hfi
  clear hl
  have hl4 := ch_len n
  have hr := rest_eq n
  generalize hL : (chL n).length = L at *
  generalize (restL n).getD 0 0 = r0 at *
  generalize (restL n).getD 1 0 = r1 at *
  generalize (restL n).getD 2 0 = r2 at *
  generalize (restL n).getD 3 0 = r3 at *
  have HL := Lib.hid hL
  have HR := Lib.hid hr
  clear hL hr
  have hzf := zero_format
  go_enter Try.func91, Try.ntmps91
  go_wp2_with (first | (go_at_call 85; refine (hfi.out _).mono ?_; rintro e w1 ⟨c, rfl, hch, hcw, hx⟩; have hres1 := hx.heap (heap_alloc_new _ _)))
  obtain ⟨w2, hw2e, hw2, hc2⟩ : ∃ w2, w1.alloc (.cells #[.int .i64 zs.length, .slice (some ⟨c, 0, none⟩) L L, .int .i32 r0, .int .i32 r1, .int .i32 r2, .int .i32 r3] 159) = w2 ∧ w2.heap[w1.heap.size]? = some (.cells #[.int .i64 zs.length, .slice (some ⟨c, 0, none⟩) L L, .int .i32 r0, .int .i32 r1, .int .i32 r2, .int .i32 r3] 159 (0, 0)) ∧ Ext w1 w2 := ⟨_, rfl, heap_alloc_new _ _, (Ext.refl _).alloc _⟩
  rw [hw2e]
  have hcw2 : w.heap.size + 1 ≤ c := by rw [World.size_alloc] at hcw; exact hcw
  have hw1 : w.heap.size + 1 ≤ w1.heap.size := by have := hx.size; rw [World.size_alloc] at this; exact this
  have hx1 := ((Ext.refl w).alloc _).trans hx
  have hx12 := hc2
  have hx2 := Lib.hid (hx1.trans hx12)
  have hch2 := Lib.hid (hx12.heap hch)
  have hres2 := Lib.hid (hx12.heap hres1)
  have hf1 : w2.cell? ⟨w1.heap.size, 1, none⟩ = some (.slice (some ⟨c, 0, none⟩) L L) := cell_of_heap hw2 rfl
  have hf2 : w2.cell? ⟨w1.heap.size, 2, none⟩ = some (.int .i32 r0) := cell_of_heap hw2 rfl
  have hf3 : w2.cell? ⟨w1.heap.size, 3, none⟩ = some (.int .i32 r1) := cell_of_heap hw2 rfl
  have hf4 : w2.cell? ⟨w1.heap.size, 4, none⟩ = some (.int .i32 r2) := cell_of_heap hw2 rfl
  have hf5 : w2.cell? ⟨w1.heap.size, 5, none⟩ = some (.int .i32 r3) := cell_of_heap hw2 rfl
  have hws := heap_lt hw2
  have hww := heap_lt hres1
  have hcs := heap_lt hch
  have hpos := h.pos
  have hwf := h.2
  clear hfi hx hcw h hlen hp hx1 hx12 hc2 hw2 hw2e hch hres1
  generalize w1.heap.size = fb at *
  go_loop [8, 32] (fun x i => ∃ m : Nat, m ≤ zs.length ∧ i = .int .i64 m ∧ x = .int .u32 (leN (zs.take m))) (fun _ i => zs.length - (intOf i).toNat)
  case atStart => exact ⟨0, Nat.zero_le _, rfl, rfl⟩
  case round =>
    obtain ⟨m, hm, rfl, rfl⟩ := hrel
    by_cases hlt : m < zs.length
    · obtain ⟨b, off, rfl, hb, hcell⟩ := hpos (by omega)
      have hk := hx2.out.cell (hcell m hlt)
      have hb1 : b < w2.heap.size := by have := hx2.out.size; omega
      have hml : (m : Int) < (zs.length : Int) := by omega
      have hw := u8_of_wf (hwf (zs.getD m 0) (by rw [List.getD_eq_getElem?_getD, List.getElem?_eq_getElem hlt]; exact List.getElem_mem hlt))
      have hbd := leN_bound (zs.take m) (fun z hz => u8_of_wf (hwf z (List.mem_of_mem_take hz)))
      rw [List.length_take, Nat.min_eq_left hm] at hbd
      have hst := Lib.hid (show leN (zs.take (m + 1)) = leN (zs.take m) + zs.getD m 0 * 256 ^ m by rw [take_snoc_getD zs m hlt, leN_snoc, List.length_take, Nat.min_eq_left hm])
      have HBD := Lib.hid hbd
      have HW := Lib.hid hw
      generalize leN (zs.take m) = X at *
      generalize zs.getD m 0 = y at *
      clear hbd hcell hpos hwf
      go_wp2
      go_round
      case rel => exact ⟨m + 1, by omega, by go_num, by rw [hst.out, ← or_byte_u32 _ y m (by omega) HBD.out.1 HBD.out.2 HW.out.1 HW.out.2, IntKind.wrap_u32]⟩
      case measure => simp [intOf]; omega
    · obtain rfl : m = zs.length := by omega
      rw [List.take_length]
      have HWF := Lib.hid hwf
      clear hpos hwf
      go_wp2_with fail
      obtain ⟨w3, hw3e, hw3, hx3⟩ : ∃ w3, w2.alloc (.cells #[.int .i32 r0, .int .i32 r1, .int .i32 r2, .int .i32 r3] 26) = w3 ∧ w3.heap[w2.heap.size]? = some (.cells #[.int .i32 r0, .int .i32 r1, .int .i32 r2, .int .i32 r3] 26 (0, 0)) ∧ Ext w2 w3 := ⟨_, rfl, heap_alloc_new _ _, (Ext.refl _).alloc _⟩
      rw [hw3e]
      have hx13 := Lib.hid (hx2.out.trans hx3)
      have hch3 := Lib.hid (hx3.heap hch2.out)
      have hres3 := Lib.hid (hx3.heap hres2.out)
      have hob := heap_lt hw3
      have hobs : fb < w2.heap.size := hws
      have hX := leN_bound zs (fun z hz => u8_of_wf (HWF.out z hz))
      have hX2 : leN zs < 4294967296 := by
        have : (256 : Int) ^ zs.length ≤ 256 ^ 4 := pow256_le _ _ hsz
        omega
      have hX0 := hX.1
      generalize hXe : leN zs = X at *
      have HXE := Lib.hid hXe
      clear hXe
      generalize w2.heap.size = ob at *
      clear hw3e hx3 hch2 hres2 hf1 hf2 hf3 hf4 hf5 hx2 hX hws
      go_loopw [50] (fun i wr => ∃ (m : Nat) (o : List Int), m ≤ L ∧ i = .int .i64 m ∧ o = outU X ((chL n).take m) (restL n) ∧ o.length = 4 ∧ wr.heap[ob]? = some (.cells (o.map (Value.int .i32)).toArray 26 (0, 0)) ∧ Chg [ob] w3 wr) (fun i _ => L - (intOf i).toNat)
      case atStart => exact ⟨0, [r0, r1, r2, r3], Nat.zero_le _, rfl, HR.out.symm, rfl, hw3, Chg.refl _ _⟩
      case round =>
        obtain ⟨m, o, hm, rfl, ho, ho4, hwo, hx⟩ := hrel
        by_cases hlt : m < L
        · obtain ⟨ch, hch⟩ : ∃ ch, (chL n)[m]? = some ch := ⟨_, List.getElem?_eq_getElem (by rw [HL.out]; exact hlt)⟩
          obtain ⟨a, b, s⟩ := ch
          have hmem := List.mem_of_getElem? hch
          obtain ⟨ha4, hb1, hb8, hs24⟩ := ch_ok n _ hmem
          simp only at ha4 hb1 hb8 hs24
          have hstep := Lib.hid (show outU X ((chL n).take (m + 1)) (restL n) = o.set a (numV (X / 2 ^ s % 2 ^ b) b) by rw [List.take_add_one, hch, ho]; unfold outU; rw [Option.toList_some, List.foldl_append]; rfl)
          obtain ⟨k0, k1, k2⟩ := chCells_at _ m _ hch
          have hcr := hx.heap hch3.out (by simp; omega)
          have c0 := cell_of_heap hcr k0
          have c1 := cell_of_heap hcr k1
          have c2 := cell_of_heap hcr k2
          simp only at c0 c1 c2
          have hcs2 : c < wr.heap.size := heap_lt hcr
          have hml : (m : Int) < (L : Int) := by omega
          have hwos := heap_lt hwo
          have HWO := Lib.hid hwo
          have HXX := Lib.hid hx
          have HO4 := Lib.hid ho4
          clear hcr k0 k1 k2 hmem hch ho ho4 hwo hx hlt
          go_wp2_with fail
          obtain ⟨w5, hw5e, hw5, hx5⟩ : ∃ w5, wr.alloc (.cells #[.int .i64 (a : Int), .int .i64 (b : Int), .int .i64 (s : Int)] 173) = w5 ∧ w5.heap[wr.heap.size]? = some (.cells #[.int .i64 (a : Int), .int .i64 (b : Int), .int .i64 (s : Int)] 173 (0, 0)) ∧ Ext wr w5 := ⟨_, rfl, heap_alloc_new _ _, (Ext.refl _).alloc _⟩
          rw [hw5e]
          have e0 : w5.cell? ⟨wr.heap.size, 0, none⟩ = some (.int .i64 (a : Int)) := cell_of_heap hw5 rfl
          have e1 : w5.cell? ⟨wr.heap.size, 1, none⟩ = some (.int .i64 (b : Int)) := cell_of_heap hw5 rfl
          have e2 : w5.cell? ⟨wr.heap.size, 2, none⟩ = some (.int .i64 (s : Int)) := cell_of_heap hw5 rfl
          have hwo5 := hx5.heap HWO.out
          have e3 : w5.cell? ⟨ob, a, none⟩ = some (.int .i32 (o.getD a 0)) := cell_of_heap hwo5 (by have := HO4.out; rw [List.getElem?_toArray, List.getElem?_map, List.getElem?_eq_getElem (by omega), List.getD_eq_getElem?_getD, List.getElem?_eq_getElem (by omega)]; rfl)
          have e4 : w5.frozen? ⟨ob, a, none⟩ = false := free_of_heap hwo5
          have HX5 := Lib.hid hx5
          have HWO5 := Lib.hid hwo5
          have hqo : ob < wr.heap.size := hwos
          generalize wr.heap.size = q at *
          have ha0 : (0 : Int) ≤ (a : Int) := by omega
          have ha1 : (a : Int) < 4 := by omega
          have hb0 : (0 : Int) ≤ (b : Int) := by omega
          have hs0 : (0 : Int) ≤ (s : Int) := by omega
          have hqo2 : q ≠ ob := by omega
          have hqo3 : ob ≠ q := by omega
          have hqo4 : (ob == q) = false := by simpa using hqo3
          have hqo5 : (q == ob) = false := by simpa using hqo2
          have HE := Lib.hid (mask_core X s b hX0 hX2 (by omega))
          have hb16 : b ≤ 16 := by omega
          have hn0 : 0 ≤ X / 2 ^ s % 2 ^ b := Int.emod_nonneg _ (by have : (0 : Int) < 2 ^ b := Int.pow_pos (by decide); omega)
          have HN1 := Lib.hid (show X / 2 ^ s % 2 ^ b < 2 ^ b from Int.emod_lt_of_pos _ (Int.pow_pos (by decide)))
          clear hw5e hw5 hx5 hwo5 c0 c1 c2 hcs2
          go_region_held3 (fun w' => w'.cell? ⟨q, 0, none⟩ = some (.int .i64 (a : Int)) ∧ w'.cell? ⟨q, 1, none⟩ = some (.int .i64 (b : Int)) ∧ w'.cell? ⟨q, 2, none⟩ = some (.int .i64 (s : Int))) (go_keep) (first | (go_at_call 116; rw [HE.out]; refine (number_any _ b _ hn0 HN1.out hb1 hb16).mono ?_; rintro e w' ⟨rfl, rfl⟩))
          go_wp2_with fail
          go_roundw
          case rel => exact ⟨m + 1, o.set a (numV (X / 2 ^ s % 2 ^ b) b), by omega, by go_num, hstep.out.symm, by rw [List.length_set]; exact HO4.out, ((Ext.refl _).drew).heap ((heap_set HWO5.out).trans (by simp [List.map_set])), ((HXX.out.ext2 HX5.out).setCell (by simp) _).ext2 ((Ext.refl _).drew)⟩
          case measure => simp [intOf]; omega
        · obtain rfl : m = L := by omega
          have ho' := Lib.hid (show o = outU X (chL n) (restL n) by rw [ho, ← HL.out, List.take_length])
          have hresR := hx.heap hres3.out (by simp; omega)
          have hxw := Lib.hid (hx13.out.chgTrans hx (by simp; omega))
          obtain ⟨o0, o1, o2, o3, rfl⟩ : ∃ o0 o1 o2 o3, o = [o0, o1, o2, o3] := by
            match o, ho4 with
            | [o0, o1, o2, o3], _ => exact ⟨o0, o1, o2, o3, rfl⟩
          have d0 : wr.cell? ⟨ob, 0, none⟩ = some (.int .i32 o0) := cell_of_heap hwo rfl
          have d1 : wr.cell? ⟨ob, 1, none⟩ = some (.int .i32 o1) := cell_of_heap hwo rfl
          have d2 : wr.cell? ⟨ob, 2, none⟩ = some (.int .i32 o2) := cell_of_heap hwo rfl
          have d3 : wr.cell? ⟨ob, 3, none⟩ = some (.int .i32 o3) := cell_of_heap hwo rfl
          have z1 : wr.frozen? ⟨ob, 1, none⟩ = false := free_of_heap hwo
          have z2 : wr.frozen? ⟨ob, 2, none⟩ = false := free_of_heap hwo
          have hwos := heap_lt hwo
          have hlt2 : w.heap.size < wr.heap.size := by omega
          clear ho hwo hx ho4 hlt hm hch3 hres3 hx13
          by_cases hn57 : n = 5 ∨ n = 7
          · have hg : ((n : Int) == 5 || (n : Int) == 7) = true := by rcases hn57 with rfl | rfl <;> rfl
            have HV := Lib.hid (show unpV n (leN zs) = [o0, o0, o0, o3] by rw [HXE.out]; unfold unpV; rw [if_pos hn57, ← ho'.out]; rfl)
            have hch6 := ((Chg.refl [ob] wr).setCell (p := ⟨ob, 1, none⟩) (by simp) (.int .i32 o0)).setCell (p := ⟨ob, 2, none⟩) (by simp) (.int .i32 o0)
            have hresG := hch6.heap hresR (by simp; omega)
            have hxw6 := Lib.hid (hxw.out.chgTrans hch6 (by simp; omega))
            clear hch6 hresR hn57
            go_wp2_with (first | (go_at_call 117; refine (grey_any _ _).mono ?_; rintro e w6 ⟨rfl, rfl⟩; rw [hg]) | (refine wpList_store_whole rfl 26 _ _ rfl w.heap.size #[.int .i32 o0, .int .i32 o0, .int .i32 o0, .int .i32 o3] rfl rfl #[.int .i32 0, .int .i32 0, .int .i32 0, .int .i32 0] 26 hresG rfl info_vec (by simp [Value.oneCell']) ?_; intro w7 hw7 hc7))
            have hload := run_loadVar_whole (P := Try.prog) 26 _ hw7 Try.underlying26 rfl info_vec
            refine bodyPost_ret (results_cell2 rfl _ _ _ _ rfl hload) rfl ?_
            rw [HV.out]
            exact ⟨rfl, hxw6.out.chgTrans hc7 (by simp)⟩
          · have hg : ((n : Int) == 5 || (n : Int) == 7) = false := by simp; omega
            have HV := Lib.hid (show unpV n (leN zs) = [o0, o1, o2, o3] by rw [HXE.out]; unfold unpV; rw [if_neg hn57, ← ho'.out])
            have hresG := hresR
            clear hresR hn57
            go_wp2_with (first | (go_at_call 117; refine (grey_any _ _).mono ?_; rintro e w6 ⟨rfl, rfl⟩; rw [hg]) | (refine wpList_store_whole rfl 26 _ _ rfl w.heap.size #[.int .i32 o0, .int .i32 o1, .int .i32 o2, .int .i32 o3] rfl rfl #[.int .i32 0, .int .i32 0, .int .i32 0, .int .i32 0] 26 hresG rfl info_vec (by simp [Value.oneCell']) ?_; intro w7 hw7 hc7))
            have hload := run_loadVar_whole (P := Try.prog) 26 _ hw7 Try.underlying26 rfl info_vec
            refine bodyPost_ret (results_cell2 rfl _ _ _ _ rfl hload) rfl ?_
            rw [HV.out]
            exact ⟨rfl, hxw.out.chgTrans hc7 (by simp)⟩
end Go.Proofs.Ytgdcdkajicgliaa
