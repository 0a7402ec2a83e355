/- What stays of a cell, in plain words. Conditions: each theorem's own premises. -/
import Derived.Test.YtgdcdkajicgliaaOps18
import Derived.Test.YtgdcdkajicgliaaOps1
namespace Go.Proofs.Ytgdcdkajicgliaa
open Go.RowKit
set_option linter.unusedVariables false
set_option maxRecDepth 100000
set_option linter.unusedSimpArgs false

theorem xor8 (a b : Nat) (ha : a < 256) (hb : b < 256) : bits .xor .i64 (a : Int) (b : Int) = ((a ^^^ b : Nat) : Int) := by
  have h2 : (a ^^^ b) < 2 ^ 8 := Nat.xor_lt_two_pow (by omega) (by omega)
  have key : (BitVec.ofInt 64 (a : Int) ^^^ BitVec.ofInt 64 (b : Int)).toNat = a ^^^ b := by
    rw [BitVec.toNat_xor, BitVec.ofInt_natCast, BitVec.ofInt_natCast, BitVec.toNat_ofNat, BitVec.toNat_ofNat, Nat.mod_eq_of_lt (by omega), Nat.mod_eq_of_lt (by omega)]
  show IntKind.i64.wrap ((BitVec.ofInt 64 (a : Int) ^^^ BitVec.ofInt 64 (b : Int)).toNat : Int) = _
  rw [key, IntKind.wrap_i64]
  omega
theorem keep_bits (n s w : Nat) (hn : n < 256) (hs : s < 256) (hw : w < 256) : bits .andNot .i64 (bits .xor .i64 (mixB n s w : Int) (s : Int)) (w : Int) = 0 := by
  have h1 := mixB_lt n s w hn hs hw
  have h2 : (mixB n s w ^^^ s) < 2 ^ 8 := Nat.xor_lt_two_pow (by omega) (by omega)
  rw [xor8 _ _ h1 hs, andNot8 _ _ (by omega) hw]
  have : (mixB n s w ^^^ s) &&& (255 - w) = 0 := by
    apply Nat.eq_of_testBit_eq
    intro i
    have e : 255 - w = 2 ^ 8 - (w + 1) := by omega
    unfold mixB
    rw [Nat.testBit_and, Nat.testBit_xor, Nat.testBit_or, Nat.testBit_and, Nat.testBit_and, e, Nat.testBit_two_pow_sub_succ (by omega)]
    by_cases hi : i < 8
    · cases w.testBit i <;> cases n.testBit i <;> cases s.testBit i <;> simp [hi]
    · simp [hi]
  rw [this]
  rfl
theorem same_bits (s w : Nat) (hs : s < 256) (hw : w < 256) : bits .andNot .i64 (bits .xor .i64 (s : Int) (s : Int)) (w : Int) = 0 := by
  rw [xor8 _ _ hs hs, andNot8 _ _ (by simp) hw]
  simp
theorem byte_of {x : Int} (h : inV x 0 255 = true) : ∃ n : Nat, n < 256 ∧ x = n := by
  unfold inV at h
  rw [Bool.and_eq_true, decide_eq_true_eq, decide_eq_true_eq] at h
  exact ⟨x.toNat, by omega, by omega⟩
theorem inV_byte {n : Nat} (h : n < 256) : inV (n : Int) 0 255 = true := by
  unfold inV
  rw [decide_eq_true (show (0 : Int) ≤ (n : Int) by omega), decide_eq_true (show (n : Int) ≤ 255 by omega)]
  rfl
theorem out_cl (x : Int) : outV (clV x) = false := by
  have := clV_in x
  unfold outV
  rw [decide_eq_false (show ¬ clV x < 0 by omega), decide_eq_false (show ¬ 65536 < clV x by omega)]
  rfl
theorem any4 (v : V4) : (!(v.L.any outV)) = true ↔ outV v.a = false ∧ outV v.b = false ∧ outV v.c = false ∧ outV v.d = false := by
  simp [V4.L]
theorem mixV_in (s : St) (a b : V4) : outV (mixV s a b).a = false ∧ outV (mixV s a b).b = false ∧ outV (mixV s a b).c = false ∧ outV (mixV s a b).d = false := by
  unfold mixV
  cases s.bl
  · exact ⟨out_cl _, out_cl _, out_cl _, out_cl _⟩
  · exact ⟨out_cl _, out_cl _, out_cl _, out_cl _⟩
theorem sten_ok {t : Sten} (h : stenOk t = true) : inV t.write 0 255 = true := by
  unfold stenOk at h
  simp only [Bool.and_eq_true, List.all_cons, List.all_nil, Bool.and_true] at h
  exact h.1.2.2.2
theorem side_ok {s : St} (h : stOk s = true) (f : Fr) : inV (sideV s f).write 0 255 = true := by
  unfold stOk at h
  simp only [Bool.and_eq_true, List.all_cons, List.all_nil, Bool.and_true] at h
  unfold sideV
  cases f.front
  · exact sten_ok h.1.2.2
  · exact sten_ok h.1.2.1
theorem ceOk_iff (c : Ce) : ceOk c = true ↔ inV c.sten 0 255 = true ∧ outV c.dep = false ∧ outV c.v.a = false ∧ outV c.v.b = false ∧ outV c.v.c = false ∧ outV c.v.d = false := by
  unfold ceOk
  rw [Bool.and_eq_true, Bool.and_eq_true, any4, Bool.not_eq_true']
  exact ⟨fun ⟨⟨a, b⟩, c⟩ => ⟨a, b, c⟩, fun ⟨a, b, c⟩ => ⟨⟨a, b⟩, c⟩⟩

/-- What stays. -/
structure Stays (s : St) (f : Fr) (c : Ce) (V : Ce × Bool) : Prop where
  no : V.2 = false → V.1.v = c.v ∧ V.1.dep = c.dep
  st : s.st = false → V.1.sten = c.sten
  dt : (s.dt && s.dw) = false → V.1.dep = c.dep
  m0 : s.m0 = false → V.1.v.a = c.v.a
  m1 : s.m1 = false → V.1.v.b = c.v.b
  m2 : s.m2 = false → V.1.v.c = c.v.c
  m3 : s.m3 = false → V.1.v.d = c.v.d
  bits : bits .andNot .i64 (bits .xor .i64 V.1.sten c.sten) (sideV s f).write = 0
  ok : ceOk V.1 = true
theorem stays_turned {s : St} (hok : stOk s = true) (f : Fr) {c : Ce} (hco : ceOk c = true) (how : Int) (b : Bool) : Stays s f c (turned s.st how (sideV s f) c, b) := by
  have hc := (ceOk_iff c).1 hco
  obtain ⟨k, hk, hk2⟩ := byte_of hc.1
  obtain ⟨w, hw, hw2⟩ := byte_of (side_ok hok f)
  cases hst : s.st
  · exact ⟨fun _ => ⟨rfl, rfl⟩, fun _ => rfl, fun _ => rfl, fun _ => rfl, fun _ => rfl, fun _ => rfl, fun _ => rfl, by
      show Go.bits .andNot .i64 (Go.bits .xor .i64 c.sten c.sten) _ = 0
      rw [hk2, hw2]; exact same_bits k w hk hw, hco⟩
  · refine ⟨fun _ => ⟨rfl, rfl⟩, (fun h => by simp [hst] at h), fun _ => rfl, fun _ => rfl, fun _ => rfl, fun _ => rfl, fun _ => rfl, ?_, ?_⟩
    · show Go.bits .andNot .i64 (Go.bits .xor .i64 (turnV how c.sten (sideV s f).rf (sideV s f).write : Int) c.sten) _ = 0
      have e1 : byteN c.sten = k := by rw [hk2]; exact byteN_nat k hk
      have e2 : byteN (sideV s f).write = w := by rw [hw2]; exact byteN_nat w hw
      unfold turnV
      rw [e1, e2, hk2, hw2]
      exact keep_bits _ k w (nD_lt _ _ _ hk (byteN_lt _)) hk hw
    · refine (ceOk_iff _).2 ⟨inV_byte (turnV_lt _ _ _ _), hc.2⟩
theorem stays {s : St} (hok : stOk s = true) (f : Fr) (col : V4) {c : Ce} (hco : ceOk c = true) : Stays s f c (applyV s f col c) := by
  unfold applyV
  cases s.sc && !boxV s f
  · cases s.st && !testV (sideV s f) c
    · cases s.dt && !cmpV s.df (clV f.z) c.dep
      · have hT := stays_turned hok f hco (sideV s f).zp true
        have h1 := (ceOk_iff _).1 hT.ok
        have hv : (turned s.st (sideV s f).zp (sideV s f) c).v = c.v := by unfold turned; cases s.st <;> rfl
        have hd : (turned s.st (sideV s f).zp (sideV s f) c).dep = c.dep := by unfold turned; cases s.st <;> rfl
        have hc := (ceOk_iff c).1 hco
        have lv : ∀ x, (laidV s f x).v = x.v := fun x => by unfold laidV; cases s.dt && s.dw <;> rfl
        have ls : ∀ x, (laidV s f x).sten = x.sten := fun x => by unfold laidV; cases s.dt && s.dw <;> rfl
        have ld : (s.dt && s.dw) = false → ∀ x, (laidV s f x).dep = x.dep := fun h x => by unfold laidV; rw [h]; rfl
        have ld2 : ∀ x, outV x.dep = false → outV (laidV s f x).dep = false := fun x hx => by
          unfold laidV
          cases s.dt && s.dw
          · exact hx
          · exact out_cl _
        have hM := mixV_in s col (laidV s f (turned s.st (sideV s f).zp (sideV s f) c)).v
        have e : passV s f col c = { laidV s f (turned s.st (sideV s f).zp (sideV s f) c) with v := pickV s (mixV s col (laidV s f (turned s.st (sideV s f).zp (sideV s f) c)).v) (laidV s f (turned s.st (sideV s f).zp (sideV s f) c)).v } := rfl
        generalize mixV s col (laidV s f (turned s.st (sideV s f).zp (sideV s f) c)).v = M at *
        show Stays s f c (passV s f col c, true)
        rw [e, lv, hv]
        refine ⟨(fun h => by cases h), fun h => ?_, fun h => ?_, fun h => ?_, fun h => ?_, fun h => ?_, fun h => ?_, ?_, ?_⟩
        · show (laidV s f _).sten = _; rw [ls]; exact hT.st h
        · show (laidV s f _).dep = _; rw [ld h]; exact hd
        · show (if s.m0 then M.a else c.v.a) = _; rw [h]; rfl
        · show (if s.m1 then M.b else c.v.b) = _; rw [h]; rfl
        · show (if s.m2 then M.c else c.v.c) = _; rw [h]; rfl
        · show (if s.m3 then M.d else c.v.d) = _; rw [h]; rfl
        · show Go.bits .andNot .i64 (Go.bits .xor .i64 (laidV s f _).sten c.sten) _ = 0
          rw [ls]; exact hT.bits
        · refine (ceOk_iff _).2 ⟨?_, ld2 _ h1.2.1, ?_, ?_, ?_, ?_⟩
          · show inV (laidV s f _).sten 0 255 = true; rw [ls]; exact h1.1
          · show outV (if s.m0 then M.a else c.v.a) = false; cases s.m0; exact hc.2.2.1; exact hM.1
          · show outV (if s.m1 then M.b else c.v.b) = false; cases s.m1; exact hc.2.2.2.1; exact hM.2.1
          · show outV (if s.m2 then M.c else c.v.c) = false; cases s.m2; exact hc.2.2.2.2.1; exact hM.2.2.1
          · show outV (if s.m3 then M.d else c.v.d) = false; cases s.m3; exact hc.2.2.2.2.2; exact hM.2.2.2
      · exact stays_turned hok f hco _ _
    · exact stays_turned hok f hco _ _
  · have hc := (ceOk_iff c).1 hco
    obtain ⟨k, hk, hk2⟩ := byte_of hc.1
    obtain ⟨w, hw, hw2⟩ := byte_of (side_ok hok f)
    exact ⟨fun _ => ⟨rfl, rfl⟩, fun _ => rfl, fun _ => rfl, fun _ => rfl, fun _ => rfl, fun _ => rfl, fun _ => rfl, by
      show Go.bits .andNot .i64 (Go.bits .xor .i64 c.sten c.sten) _ = 0
      rw [hk2, hw2]; exact same_bits k w hk hw, hco⟩
end Go.Proofs.Ytgdcdkajicgliaa
