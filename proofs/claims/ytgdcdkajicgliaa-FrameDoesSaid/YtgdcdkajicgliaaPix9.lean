/- The contract of pixel's Pack. Conditions: each theorem's own premises. -/
import Derived.Test.YtgdcdkajicgliaaPix8
import Derived.Deep.RegionHeld3
namespace Go.Proofs.Ytgdcdkajicgliaa
open Go.RowKit
set_option linter.unusedVariables false
set_option maxRecDepth 100000

theorem or_high (k : IntKind) (j : Nat) (hj : j ≤ k.bits) (hk : ∀ n : Int, 0 ≤ n → n < 2 ^ j → k.wrap n = n) (i : Nat)
    (x y : Int) (hx0 : 0 ≤ x) (hx : x % 2 ^ i = 0) (hx1 : x < 2 ^ j) (hy0 : 0 ≤ y) (hy : y < 2 ^ i) (hy1 : y < 2 ^ j) : bits .or k x y = x + y := by
  have h := or_low k j hj hk i y x hy0 hy hy1 hx0 hx hx1
  obtain ⟨a, rfl⟩ := Int.eq_ofNat_of_zero_le hx0
  obtain ⟨b, rfl⟩ := Int.eq_ofNat_of_zero_le hy0
  have ha : a < 2 ^ j := by exact_mod_cast hx1
  have hb : b < 2 ^ j := by exact_mod_cast hy1
  rw [(bits_nat k j hj hk b a hb ha).2] at h
  rw [(bits_nat k j hj hk a b ha hb).2, Nat.or_comm, h]
  omega
/-- What Pack lays together. -/
def packO (c : List Int) (l : List (Nat × Nat × Nat)) : Int := l.foldl (fun X ch => bits .or .u32 X (IntKind.u32.wrap (bitsV (c.getD ch.1 0) ch.2.1 * 2 ^ ch.2.2))) 0
/-- The same, as a sum. -/
def packX (n : Nat) (c : List Int) : Int :=
  match n with
  | 1 => bitsV (c.getD 0 0) 8 + bitsV (c.getD 1 0) 8 * 256 + bitsV (c.getD 2 0) 8 * 65536 + bitsV (c.getD 3 0) 8 * 16777216
  | 2 => bitsV (c.getD 0 0) 5 * 2048 + bitsV (c.getD 1 0) 6 * 32 + bitsV (c.getD 2 0) 5
  | 3 => bitsV (c.getD 0 0) 4 * 4096 + bitsV (c.getD 1 0) 4 * 256 + bitsV (c.getD 2 0) 4 * 16 + bitsV (c.getD 3 0) 4
  | 4 => bitsV (c.getD 0 0) 5 * 2048 + bitsV (c.getD 1 0) 5 * 64 + bitsV (c.getD 2 0) 5 * 2 + bitsV (c.getD 3 0) 1
  | 5 => bitsV (c.getD 0 0) 8
  | 6 => bitsV (c.getD 3 0) 8
  | 7 => bitsV (c.getD 0 0) 8 + bitsV (c.getD 3 0) 8 * 256
  | _ => 0
theorem or_lo32 (i : Nat) (x y : Int) (hx0 : 0 ≤ x) (hx : x < 2 ^ i) (hx1 : x < 4294967296) (hy0 : 0 ≤ y) (hy : y % 2 ^ i = 0) (hy1 : y < 4294967296) : bits .or .u32 x (IntKind.u32.wrap y) = x + y := by
  rw [wraps_u32 y hy0 hy1]
  exact or_low .u32 32 (by decide) wraps_u32 i x y hx0 hx hx1 hy0 hy hy1
theorem or_hi32 (i : Nat) (x y : Int) (hx0 : 0 ≤ x) (hx : x % 2 ^ i = 0) (hx1 : x < 4294967296) (hy0 : 0 ≤ y) (hy : y < 2 ^ i) (hy1 : y < 4294967296) : bits .or .u32 x (IntKind.u32.wrap y) = x + y := by
  rw [wraps_u32 y hy0 hy1]
  exact or_high .u32 32 (by decide) wraps_u32 i x y hx0 hx hx1 hy0 hy hy1
theorem bb (x : Int) (k : Nat) (M : Int) (h1 : 1 ≤ k) (h2 : k ≤ 16) (hM : (2 : Int) ^ k = M) : 0 ≤ bitsV x k ∧ bitsV x k < M := by
  have := bits_bd x k h1 h2
  omega
theorem pack_1 (c : List Int) : packO c (chL 1) = packX 1 c := by
  have h0 := bb (c.getD 0 0) 8 256 (by decide) (by decide) (by decide)
  have h1 := bb (c.getD 1 0) 8 256 (by decide) (by decide) (by decide)
  have h2 := bb (c.getD 2 0) 8 256 (by decide) (by decide) (by decide)
  have h3 := bb (c.getD 3 0) 8 256 (by decide) (by decide) (by decide)
  unfold packO chL packX
  simp only [List.foldl]
  generalize bitsV (c.getD 0 0) 8 = v0 at *
  generalize bitsV (c.getD 1 0) 8 = v1 at *
  generalize bitsV (c.getD 2 0) 8 = v2 at *
  generalize bitsV (c.getD 3 0) 8 = v3 at *
  rw [or_lo32 0 (0) (v0 * 2 ^ 0) (by omega) (by omega) (by omega) (by omega) (by omega) (by omega)]
  rw [or_lo32 8 (0 + v0 * 2 ^ 0) (v1 * 2 ^ 8) (by omega) (by omega) (by omega) (by omega) (by omega) (by omega)]
  rw [or_lo32 16 (0 + v0 * 2 ^ 0 + v1 * 2 ^ 8) (v2 * 2 ^ 16) (by omega) (by omega) (by omega) (by omega) (by omega) (by omega)]
  rw [or_lo32 24 (0 + v0 * 2 ^ 0 + v1 * 2 ^ 8 + v2 * 2 ^ 16) (v3 * 2 ^ 24) (by omega) (by omega) (by omega) (by omega) (by omega) (by omega)]
  omega
theorem pack_2 (c : List Int) : packO c (chL 2) = packX 2 c := by
  have h0 := bb (c.getD 0 0) 5 32 (by decide) (by decide) (by decide)
  have h1 := bb (c.getD 1 0) 6 64 (by decide) (by decide) (by decide)
  have h2 := bb (c.getD 2 0) 5 32 (by decide) (by decide) (by decide)
  unfold packO chL packX
  simp only [List.foldl]
  generalize bitsV (c.getD 0 0) 5 = v0 at *
  generalize bitsV (c.getD 1 0) 6 = v1 at *
  generalize bitsV (c.getD 2 0) 5 = v2 at *
  rw [or_hi32 16 (0) (v0 * 2 ^ 11) (by omega) (by omega) (by omega) (by omega) (by omega) (by omega)]
  rw [or_hi32 11 (0 + v0 * 2 ^ 11) (v1 * 2 ^ 5) (by omega) (by omega) (by omega) (by omega) (by omega) (by omega)]
  rw [or_hi32 5 (0 + v0 * 2 ^ 11 + v1 * 2 ^ 5) (v2 * 2 ^ 0) (by omega) (by omega) (by omega) (by omega) (by omega) (by omega)]
  omega
theorem pack_3 (c : List Int) : packO c (chL 3) = packX 3 c := by
  have h0 := bb (c.getD 0 0) 4 16 (by decide) (by decide) (by decide)
  have h1 := bb (c.getD 1 0) 4 16 (by decide) (by decide) (by decide)
  have h2 := bb (c.getD 2 0) 4 16 (by decide) (by decide) (by decide)
  have h3 := bb (c.getD 3 0) 4 16 (by decide) (by decide) (by decide)
  unfold packO chL packX
  simp only [List.foldl]
  generalize bitsV (c.getD 0 0) 4 = v0 at *
  generalize bitsV (c.getD 1 0) 4 = v1 at *
  generalize bitsV (c.getD 2 0) 4 = v2 at *
  generalize bitsV (c.getD 3 0) 4 = v3 at *
  rw [or_hi32 16 (0) (v0 * 2 ^ 12) (by omega) (by omega) (by omega) (by omega) (by omega) (by omega)]
  rw [or_hi32 12 (0 + v0 * 2 ^ 12) (v1 * 2 ^ 8) (by omega) (by omega) (by omega) (by omega) (by omega) (by omega)]
  rw [or_hi32 8 (0 + v0 * 2 ^ 12 + v1 * 2 ^ 8) (v2 * 2 ^ 4) (by omega) (by omega) (by omega) (by omega) (by omega) (by omega)]
  rw [or_hi32 4 (0 + v0 * 2 ^ 12 + v1 * 2 ^ 8 + v2 * 2 ^ 4) (v3 * 2 ^ 0) (by omega) (by omega) (by omega) (by omega) (by omega) (by omega)]
  omega
theorem pack_4 (c : List Int) : packO c (chL 4) = packX 4 c := by
  have h0 := bb (c.getD 0 0) 5 32 (by decide) (by decide) (by decide)
  have h1 := bb (c.getD 1 0) 5 32 (by decide) (by decide) (by decide)
  have h2 := bb (c.getD 2 0) 5 32 (by decide) (by decide) (by decide)
  have h3 := bb (c.getD 3 0) 1 2 (by decide) (by decide) (by decide)
  unfold packO chL packX
  simp only [List.foldl]
  generalize bitsV (c.getD 0 0) 5 = v0 at *
  generalize bitsV (c.getD 1 0) 5 = v1 at *
  generalize bitsV (c.getD 2 0) 5 = v2 at *
  generalize bitsV (c.getD 3 0) 1 = v3 at *
  rw [or_hi32 16 (0) (v0 * 2 ^ 11) (by omega) (by omega) (by omega) (by omega) (by omega) (by omega)]
  rw [or_hi32 11 (0 + v0 * 2 ^ 11) (v1 * 2 ^ 6) (by omega) (by omega) (by omega) (by omega) (by omega) (by omega)]
  rw [or_hi32 6 (0 + v0 * 2 ^ 11 + v1 * 2 ^ 6) (v2 * 2 ^ 1) (by omega) (by omega) (by omega) (by omega) (by omega) (by omega)]
  rw [or_hi32 1 (0 + v0 * 2 ^ 11 + v1 * 2 ^ 6 + v2 * 2 ^ 1) (v3 * 2 ^ 0) (by omega) (by omega) (by omega) (by omega) (by omega) (by omega)]
  omega
theorem pack_5 (c : List Int) : packO c (chL 5) = packX 5 c := by
  have h0 := bb (c.getD 0 0) 8 256 (by decide) (by decide) (by decide)
  unfold packO chL packX
  simp only [List.foldl]
  generalize bitsV (c.getD 0 0) 8 = v0 at *
  rw [or_lo32 0 (0) (v0 * 2 ^ 0) (by omega) (by omega) (by omega) (by omega) (by omega) (by omega)]
  omega
theorem pack_6 (c : List Int) : packO c (chL 6) = packX 6 c := by
  have h0 := bb (c.getD 3 0) 8 256 (by decide) (by decide) (by decide)
  unfold packO chL packX
  simp only [List.foldl]
  generalize bitsV (c.getD 3 0) 8 = v0 at *
  rw [or_lo32 0 (0) (v0 * 2 ^ 0) (by omega) (by omega) (by omega) (by omega) (by omega) (by omega)]
  omega
theorem pack_7 (c : List Int) : packO c (chL 7) = packX 7 c := by
  have h0 := bb (c.getD 0 0) 8 256 (by decide) (by decide) (by decide)
  have h1 := bb (c.getD 3 0) 8 256 (by decide) (by decide) (by decide)
  unfold packO chL packX
  simp only [List.foldl]
  generalize bitsV (c.getD 0 0) 8 = v0 at *
  generalize bitsV (c.getD 3 0) 8 = v1 at *
  rw [or_lo32 0 (0) (v0 * 2 ^ 0) (by omega) (by omega) (by omega) (by omega) (by omega) (by omega)]
  rw [or_lo32 8 (0 + v0 * 2 ^ 0) (v1 * 2 ^ 8) (by omega) (by omega) (by omega) (by omega) (by omega) (by omega)]
  omega
theorem pack_eq (n : Nat) (c : List Int) (h1 : 1 ≤ n) (h7 : n ≤ 7) : packO c (chL n) = packX n c := by
  have : n = 1 ∨ n = 2 ∨ n = 3 ∨ n = 4 ∨ n = 5 ∨ n = 6 ∨ n = 7 := by omega
  rcases this with rfl | rfl | rfl | rfl | rfl | rfl | rfl
  · exact pack_1 c
  · exact pack_2 c
  · exact pack_3 c
  · exact pack_4 c
  · exact pack_5 c
  · exact pack_6 c
  · exact pack_7 c
/-- A pixel's bytes. -/
def szN (n : Nat) : Nat := if n = 1 then 4 else if n = 5 ∨ n = 6 then 1 else 2
theorem szN_V (n : Nat) (h1 : 1 ≤ n) (h7 : n ≤ 7) : szV n = (szN n : Int) := by
  have : n = 1 ∨ n = 2 ∨ n = 3 ∨ n = 4 ∨ n = 5 ∨ n = 6 ∨ n = 7 := by omega
  rcases this with rfl | rfl | rfl | rfl | rfl | rfl | rfl <;> rfl
theorem szN_bd (n : Nat) : 1 ≤ szN n ∧ szN n ≤ 4 := by unfold szN; split <;> (try split) <;> omega
theorem packX_bd (n : Nat) (c : List Int) : 0 ≤ packX n c ∧ packX n c < 256 ^ szN n := by
  have : n = 1 ∨ n = 2 ∨ n = 3 ∨ n = 4 ∨ n = 5 ∨ n = 6 ∨ n = 7 ∨ (packX n c = 0 ∧ 1 ≤ szN n) := by
    have hs := (szN_bd n).1
    unfold packX
    split <;> simp [hs]
  rcases this with rfl | rfl | rfl | rfl | rfl | rfl | rfl | h
  · have h0 := bb (c.getD 0 0) 8 256 (by decide) (by decide) (by decide)
    have h1 := bb (c.getD 1 0) 8 256 (by decide) (by decide) (by decide)
    have h2 := bb (c.getD 2 0) 8 256 (by decide) (by decide) (by decide)
    have h3 := bb (c.getD 3 0) 8 256 (by decide) (by decide) (by decide)
    have hp : (256 : Int) ^ szN 1 = 4294967296 := by decide
    rw [hp]
    simp only [packX]
    omega
  · have h0 := bb (c.getD 0 0) 5 32 (by decide) (by decide) (by decide)
    have h1 := bb (c.getD 1 0) 6 64 (by decide) (by decide) (by decide)
    have h2 := bb (c.getD 2 0) 5 32 (by decide) (by decide) (by decide)
    have hp : (256 : Int) ^ szN 2 = 65536 := by decide
    rw [hp]
    simp only [packX]
    omega
  · have h0 := bb (c.getD 0 0) 4 16 (by decide) (by decide) (by decide)
    have h1 := bb (c.getD 1 0) 4 16 (by decide) (by decide) (by decide)
    have h2 := bb (c.getD 2 0) 4 16 (by decide) (by decide) (by decide)
    have h3 := bb (c.getD 3 0) 4 16 (by decide) (by decide) (by decide)
    have hp : (256 : Int) ^ szN 3 = 65536 := by decide
    rw [hp]
    simp only [packX]
    omega
  · have h0 := bb (c.getD 0 0) 5 32 (by decide) (by decide) (by decide)
    have h1 := bb (c.getD 1 0) 5 32 (by decide) (by decide) (by decide)
    have h2 := bb (c.getD 2 0) 5 32 (by decide) (by decide) (by decide)
    have h3 := bb (c.getD 3 0) 1 2 (by decide) (by decide) (by decide)
    have hp : (256 : Int) ^ szN 4 = 65536 := by decide
    rw [hp]
    simp only [packX]
    omega
  · have h0 := bb (c.getD 0 0) 8 256 (by decide) (by decide) (by decide)
    have hp : (256 : Int) ^ szN 5 = 256 := by decide
    rw [hp]
    simp only [packX]
    omega
  · have h0 := bb (c.getD 3 0) 8 256 (by decide) (by decide) (by decide)
    have hp : (256 : Int) ^ szN 6 = 256 := by decide
    rw [hp]
    simp only [packX]
    omega
  · have h0 := bb (c.getD 0 0) 8 256 (by decide) (by decide) (by decide)
    have h1 := bb (c.getD 3 0) 8 256 (by decide) (by decide) (by decide)
    have hp : (256 : Int) ^ szN 7 = 65536 := by decide
    rw [hp]
    simp only [packX]
    omega
  · rw [h.1]
    exact ⟨Int.le_refl _, Int.pow_pos (by decide)⟩

theorem own_facts {w : World} {base sz n cap : Nat} {e : TypeId} {a : Option Addr} {xs : List Value} (h : w.ownsRow base e sz (.slice a n cap) n xs) (h0 : 0 < n) : ∃ g, a = some ⟨g, 0, none⟩ ∧ n ≤ cap ∧ cap ≤ maxLen := by
  rcases h.2 with ⟨_, hn⟩ | ⟨g, cap', cur, hv, _, _, h1, h2, _⟩
  · omega
  · simp only [Value.slice.injEq] at hv
    obtain ⟨rfl, _, rfl⟩ := hv
    exact ⟨g, rfl, h1, h2⟩
theorem Ints.top {k : IntKind} {w : World} {x : Addr} {n cap : Nat} {zs : List Int} (h : Ints k w (.slice (some x) n cap) zs) (r : Nat) (h0 : 0 < r) (hr : r ≤ zs.length) : Ints k w (.slice (some x) r r) (zs.take r) := by
  obtain ⟨⟨hlen, a', cap', he, hn, hc, hz, hp⟩, hwf⟩ := h
  simp only [Value.slice.injEq] at he
  obtain ⟨rfl, rfl, rfl⟩ := he
  have hl : (zs.take r).length = r := by rw [List.length_take]; omega
  refine ⟨?_, fun z hz => hwf z (List.mem_of_mem_take hz)⟩
  rw [hl]
  refine ⟨by rw [List.length_map, hl]; omega, _, _, rfl, Nat.le_refl _, by omega, by simp, fun _ => ?_⟩
  obtain ⟨b, off, ha, hb, hcell⟩ := hp (by omega)
  refine ⟨b, off, ha, hb, fun j u hu => hcell j u ?_⟩
  rw [List.map_take, List.getElem?_take] at hu
  split at hu
  · exact hu
  · cases hu
theorem lowB_take (m : Nat) : ∀ (n : Nat) (x : Int), m ≤ n → (lowB x n).take m = lowB x m := by
  induction m with
  | zero => intro n x _; rfl
  | succ m ih =>
    intro n x h
    cases n with
    | zero => omega
    | succ n => simp only [lowB, List.take_succ_cons]; rw [ih n _ (by omega)]
theorem Ints.owned {k : IntKind} {w : World} {base : Nat} {e : TypeId} {v : Value} {n : Nat} {zs : List Int} (h : w.ownsRow base e 1 v n (zs.map (Value.int k))) (hz : ∀ z ∈ zs, (Lit.int k z).wf = true) : Ints k w v zs := by
  have h1 := SlC.owned h
  have h2 : zs.length = n := by simpa using h1.1
  rw [← h2] at h1
  exact ⟨h1, hz⟩

set_option maxHeartbeats 4000000 in
set_option maxRecDepth 20000 in
theorem pack_any (n : Nat) (c : List Int) (w : World) (h1 : 1 ≤ n) (h7 : n ≤ 7) (hc4 : c.length = 4) (hcb : ∀ x ∈ c, -2147483648 ≤ x ∧ x ≤ 2147483647) : Calls Try.prog 65 #[.int .i64 (n : Int), .agg (vecC c)] w fun e w' => ∃ a cap, e = .returned (.tuple #[.slice a (szN n) cap, .int .i64 0]) ∧ Ints .u8 w' (.slice a (szN n) cap) (lowB (packX n c) (szN n)) ∧ Ext w w' := by
  have hfi := Lib.hid (fun w => find_any n w h1 h7)
  have hpe := Lib.hid (pack_eq n c h1 h7)
  have hpb := packX_bd n c
  obtain ⟨hz1, hz4⟩ := szN_bd n
  have hP2 : packX n c < 4294967296 := by
    have : (256 : Int) ^ szN n ≤ 256 ^ 4 := pow256_le _ _ hz4
    omega
  have hP0 := hpb.1
  rw [szN_V n h1 h7] at hfi
  have hl4 := ch_len n
  generalize hL : (chL n).length = L at *
  generalize (restL n).getD 0 0 = r0 at *
  generalize (restL n).getD 1 0 = r1 at *
  generalize (restL n).getD 2 0 = r2 at *
  generalize (restL n).getD 3 0 = r3 at *
  generalize hS : szN n = S at *
  have HL := Lib.hid hL
  have hzf := zero_format
  obtain ⟨c0, c1, c2, c3, rfl⟩ : ∃ c0 c1 c2 c3, c = [c0, c1, c2, c3] := by
    match c, hc4 with
    | [c0, c1, c2, c3], _ => exact ⟨c0, c1, c2, c3, rfl⟩
  clear hL hc4 hpb hS
  show Calls Try.prog 65 #[.int .i64 (n : Int), .agg #[.int .i32 c0, .int .i32 c1, .int .i32 c2, .int .i32 c3]] w _
  go_enter Try.func65, Try.ntmps65
  go_wp2_with (go_at_call 85; refine (hfi.out _).mono ?_; rintro e w1 ⟨k, rfl, hch, hkw, hx⟩; have hcol1 := hx.heap (heap_alloc_new _ _))
  obtain ⟨w2, hw2e, hw2, hx12⟩ : ∃ w2, w1.alloc (.cells #[.int .i64 (S : Int), .slice (some ⟨k, 0, none⟩) L L, .int .i32 r0, .int .i32 r1, .int .i32 r2, .int .i32 r3] 159) = w2 ∧ w2.heap[w1.heap.size]? = some (.cells #[.int .i64 (S : Int), .slice (some ⟨k, 0, none⟩) L L, .int .i32 r0, .int .i32 r1, .int .i32 r2, .int .i32 r3] 159 (0, 0)) ∧ Ext w1 w2 := ⟨_, rfl, heap_alloc_new _ _, (Ext.refl _).alloc _⟩
  rw [hw2e]
  have hch2 := Lib.hid (hx12.heap hch)
  have hcol2 := Lib.hid (hx12.heap hcol1)
  have hx2 := Lib.hid ((((Ext.refl w).alloc _).trans hx).trans hx12)
  have hf0 : w2.cell? ⟨w1.heap.size, 0, none⟩ = some (.int .i64 (S : Int)) := cell_of_heap hw2 rfl
  have hws := heap_lt hw2
  clear hw2e hch hcol1 hx hkw hw2 hx12 hfi
  generalize w1.heap.size = fb at *
  go_loopw [8, 21] (fun x i wr => ∃ m : Nat, m ≤ L ∧ i = .int .i64 m ∧ x = .int .u32 (packO [c0, c1, c2, c3] ((chL n).take m)) ∧ Ext w2 wr) (fun _ i _ => L - (intOf i).toNat)
  case atStart => exact ⟨0, Nat.zero_le _, rfl, rfl, Ext.refl _⟩
  case round =>
    obtain ⟨m, hm, rfl, rfl, hx⟩ := hrel
    by_cases hlt : m < L
    · obtain ⟨ch, hch⟩ : ∃ ch, (chL n)[m]? = some ch := ⟨_, List.getElem?_eq_getElem (by rw [HL.out]; exact hlt)⟩
      obtain ⟨a, b, s⟩ := ch
      obtain ⟨ha4, hb1, hb8, hs24⟩ := ch_ok n _ (List.mem_of_getElem? hch)
      simp only at ha4 hb1 hb8 hs24
      have hstep := Lib.hid (show packO [c0, c1, c2, c3] ((chL n).take (m + 1)) = bits .or .u32 (packO [c0, c1, c2, c3] ((chL n).take m)) (IntKind.u32.wrap (bitsV ([c0, c1, c2, c3].getD a 0) b * 2 ^ s)) by rw [List.take_add_one, hch]; unfold packO; rw [Option.toList_some, List.foldl_append]; rfl)
      obtain ⟨k0, k1, k2⟩ := chCells_at _ m _ hch
      have hcr := hx.heap hch2.out
      have e0 := cell_of_heap hcr k0
      have e1 := cell_of_heap hcr k1
      have e2 := cell_of_heap hcr k2
      simp only at e0 e1 e2
      have hcs2 : k < wr.heap.size := heap_lt hcr
      have hcolr := hx.heap hcol2.out
      have hml : (m : Int) < (L : Int) := by omega
      have hxb := Lib.hid (hcb ([c0, c1, c2, c3].getD a 0) (by rw [List.getD_eq_getElem?_getD, List.getElem?_eq_getElem (by simpa using ha4)]; exact List.getElem_mem _))
      have e3 : wr.cell? ⟨w.heap.size, a, none⟩ = some (.int .i32 ([c0, c1, c2, c3].getD a 0)) := cell_of_heap hcolr (by
        have : a = 0 ∨ a = 1 ∨ a = 2 ∨ a = 3 := by omega
        rcases this with rfl | rfl | rfl | rfl <;> rfl)
      have hcolw := heap_lt hcolr
      have HX := Lib.hid hx
      generalize packO [c0, c1, c2, c3] ((chL n).take m) = X at *
      generalize [c0, c1, c2, c3].getD a 0 = y at *
      clear hcr k0 k1 k2 hch hx hlt hcolr
      go_wp2_with fail
      obtain ⟨w5, hw5e, hw5, hx5⟩ : ∃ w5, wr.alloc (.cells #[.int .i64 (a : Int), .int .i64 (b : Int), .int .i64 (s : Int)] 173) = w5 ∧ w5.heap[wr.heap.size]? = some (.cells #[.int .i64 (a : Int), .int .i64 (b : Int), .int .i64 (s : Int)] 173 (0, 0)) ∧ Ext wr w5 := ⟨_, rfl, heap_alloc_new _ _, (Ext.refl _).alloc _⟩
      rw [hw5e]
      have g0 : w5.cell? ⟨wr.heap.size, 0, none⟩ = some (.int .i64 (a : Int)) := cell_of_heap hw5 rfl
      have g1 : w5.cell? ⟨wr.heap.size, 1, none⟩ = some (.int .i64 (b : Int)) := cell_of_heap hw5 rfl
      have g2 : w5.cell? ⟨wr.heap.size, 2, none⟩ = some (.int .i64 (s : Int)) := cell_of_heap hw5 rfl
      have g3 := hx5.cell e3
      have HX5 := Lib.hid (HX.out.trans hx5)
      generalize wr.heap.size = q at *
      have ha0 : (0 : Int) ≤ (a : Int) := by omega
      have ha1 : (a : Int) < 4 := by omega
      have hb0 : (0 : Int) ≤ (b : Int) := by omega
      have hs0 : (0 : Int) ≤ (s : Int) := by omega
      have hb16 : b ≤ 16 := by omega
      clear hw5e hw5 hx5 e0 e1 e2 e3 hcs2
      go_region_held3 (fun w' => w'.cell? ⟨q, 0, none⟩ = some (.int .i64 (a : Int)) ∧ w'.cell? ⟨q, 1, none⟩ = some (.int .i64 (b : Int)) ∧ w'.cell? ⟨q, 2, none⟩ = some (.int .i64 (s : Int)) ∧ w'.cell? ⟨w.heap.size, a, none⟩ = some (.int .i32 y)) (go_keep) (first | (go_at_call 94; refine (bits_any y b _ hxb.out hb1 hb16).mono ?_; rintro e w' ⟨rfl, rfl⟩))
      go_wp2_with fail
      go_roundw
      case rel => exact ⟨m + 1, by omega, by go_num, by rw [hstep.out], HX5.out.trans (Ext.refl _).drew⟩
      case measure => simp [intOf]; omega
    · obtain rfl : m = L := by omega
      have hf0r := hx.cell hf0
      have hxw := Lib.hid (hx2.out.trans hx)
      have hPE := Lib.hid (show packO [c0, c1, c2, c3] ((chL n).take m) = packX n [c0, c1, c2, c3] by rw [← hpe.out, ← HL.out, List.take_length])
      rw [hPE.out]
      generalize hPq : packX n [c0, c1, c2, c3] = P at *
      have HPQ := Lib.hid hPq
      clear hPq
      have hfbr : fb < wr.heap.size := by have := hx.size; omega
      have hS0 : (0 : Int) ≤ (S : Int) := by omega
      have hS4 : (S : Int) ≤ 4 := by omega
      clear hx hlt hm hf0
      go_wp2_with fail
      go_region_held3 (fun w' => w'.cell? ⟨fb, 0, none⟩ = some (.int .i64 (S : Int))) (go_keep) (first | (go_at_call 95; refine (put32_any _ [] P _ (Ints.nil _ _) (by decide) hP0 hP2).mono ?_; rintro e w' ⟨a9, cap9, rfl, hown9, hx9⟩; have hk9 := hx9.cell hf0r; obtain ⟨g9, rfl, hcp1, hcp2⟩ := own_facts hown9 (by simp); have hS9 : (S : Int) ≤ (cap9 : Int) := by (simp at hcp1; omega)))
      go_wp2_with fail
      go_ret2
      have hi := (Ints.owned hown9 (lowB_wf 4 P)).top S (by omega) (by rw [List.nil_append, lowB_length]; omega)
      rw [List.nil_append, lowB_take S 4 P hz4] at hi
      exact ⟨_, _, rfl, by rw [HPQ.out]; exact hi, hxw.out.trans (((Ext.refl _).drew).trans hx9)⟩
end Go.Proofs.Ytgdcdkajicgliaa
