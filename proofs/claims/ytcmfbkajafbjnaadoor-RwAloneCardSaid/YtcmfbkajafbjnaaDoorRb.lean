/- Sets of bits: what the functions of bits and of its reference (logjamref02) come to. -/
import Derived.Test.YtcmfbkajafbjnaaDoorBase
import Derived.Test.YtcmfbkajafbjnaaDoorRows
import Derived.Laws.BitsAllLaws
import Derived.LoopTactic
namespace Go.Proofs.YtcmfbkajafbjnaaDoor
open Go.RowKit
set_option linter.unusedSimpArgs false
set_option linter.unusedVariables false

def B64 : Nat := 18446744073709551616
/-- t is a number that may be in a set. -/
def vt (t : Int) : Prop := 0 ≤ t ∧ t ≤ 63
instance (t : Int) : Decidable (vt t) := by unfold vt; infer_instance
/-- the bit of t; 0: none. -/
def bit1 (t : Int) : Nat := if vt t then 2 ^ t.toNat else 0
def hasB (s : Nat) (t : Int) : Bool := decide (vt t) && s.testBit t.toNat
def withB (s : Nat) (t : Int) : Nat := if vt t then s ||| 2 ^ t.toNat else s
def woutB (s : Nat) (t : Int) : Nat := if hasB s t then s - 2 ^ t.toNat else s

theorem pow_lt (t : Int) (h : vt t) : 2 ^ t.toNat < B64 := by
  have : t.toNat ≤ 63 := by unfold vt at h; omega
  exact Nat.lt_of_le_of_lt (Nat.pow_le_pow_right (by decide) this) (by decide)
theorem bit1_lt (t : Int) : bit1 t < B64 := by
  unfold bit1
  split
  · exact pow_lt t (by assumption)
  · decide
theorem shl_eq (t : Int) (h : vt t) : IntKind.u64.wrap (2 ^ t.toNat) = (bit1 t : Int) := by
  unfold bit1
  rw [if_pos h, IntKind.wrap_u64]
  have := pow_lt t h
  unfold B64 at this
  have e : (2 : Int) ^ t.toNat = ((2 ^ t.toNat : Nat) : Int) := by simp
  rw [e]
  generalize 2 ^ t.toNat = x at *
  omega
theorem wOne (w : World) (t : Int) : Calls Tryd.prog 31 #[.int .i64 t] w fun e w' => e = .returned (.int .u64 (bit1 t : Nat)) ∧ w = w' := by
  by_cases h0 : t < 0
  · have E : Hid (bit1 t = 0) := by unfold Hid bit1; rw [if_neg (by unfold vt; omega)]
    have h0' := decide_eq_true h0
    go_enter Tryd.func31, Tryd.ntmps31
    go_wp2
    go_ret
    rw [E.out]
    exact ⟨rfl, rfl⟩
  · by_cases h1 : t > 63
    · have E : Hid (bit1 t = 0) := by unfold Hid bit1; rw [if_neg (by unfold vt; omega)]
      have h0' := decide_eq_false h0
      have h1' : decide (63 < t) = true := decide_eq_true h1
      go_enter Tryd.func31, Tryd.ntmps31
      go_wp2
      go_ret
      rw [E.out]
      exact ⟨rfl, rfl⟩
    · have hv : vt t := by unfold vt; omega
      have E := Lib.hid (shl_eq t hv)
      have h0' := decide_eq_false h0
      have h1' : decide (63 < t) = false := decide_eq_false h1
      have h2 : 0 ≤ t := by omega
      have h3 : t ≤ 64 := by omega
      clear hv
      go_enter Tryd.func31, Tryd.ntmps31
      go_wp2
      go_ret
      rw [E.out]
      exact ⟨rfl, rfl⟩
theorem bit_ne (s : Nat) (n : Nat) : (s &&& 2 ^ n != 0) = s.testBit n := by
  rw [nat_bit, Nat.testBit_eq_decide_div_mod_eq]
  have h := Nat.mod_two_eq_zero_or_one (s / 2 ^ n)
  rcases h with h | h
  · rw [h]; simp
  · rw [h]; simp
theorem has_eq (s : Nat) (hs : s < B64) (t : Int) : (bits .and .u64 (s : Int) ((bit1 t : Nat) : Int) != 0) = hasB s t := by
  unfold hasB
  rw [u64_and_nat _ _ hs (bit1_lt t)]
  unfold bit1
  by_cases h : vt t
  · rw [if_pos h]
    simp only [h, decide_true, Bool.true_and]
    rw [← bit_ne]
    generalize s &&& 2 ^ t.toNat = x
    cases x <;> simp <;> omega
  · rw [if_neg h]
    simp [h]
theorem with_eq (s : Nat) (hs : s < B64) (t : Int) : bits .or .u64 (s : Int) ((bit1 t : Nat) : Int) = (withB s t : Nat) := by
  unfold withB
  rw [u64_or_nat _ _ hs (bit1_lt t)]
  unfold bit1
  split <;> simp
theorem or_add (s n : Nat) (hs : s < B64) (hn : n < 64) (h : s.testBit n = false) : s ||| 2 ^ n = s + 2 ^ n := by
  have e : s &&& 2 ^ n = 0 := by
    rw [nat_bit]
    rw [Nat.testBit_eq_decide_div_mod_eq] at h
    simp at h
    rw [h]; simp
  have q := BitVec.add_eq_or_of_and_eq_zero (BitVec.ofNat 65 s) (BitVec.ofNat 65 (2 ^ n)) (by
    apply BitVec.eq_of_toNat_eq
    have hp : 2 ^ n < 2 ^ 65 := Nat.pow_lt_pow_right (by decide) (by omega)
    unfold B64 at hs
    simp [Nat.mod_eq_of_lt hp, Nat.mod_eq_of_lt (show s < 2 ^ 65 by omega), e])
  have q2 := congrArg BitVec.toNat q
  have hp : 2 ^ n ≤ 2 ^ 63 := Nat.pow_le_pow_right (by decide) (by omega)
  unfold B64 at hs
  simp only [BitVec.toNat_add, BitVec.toNat_or, BitVec.toNat_ofNat] at q2
  rw [Nat.mod_eq_of_lt (show s < 2 ^ 65 by omega), Nat.mod_eq_of_lt (show 2 ^ n < 2 ^ 65 by omega), Nat.mod_eq_of_lt (by omega)] at q2
  exact q2.symm
theorem andNot_eq (s n : Nat) (hs : s < B64) (hn : n < 64) : s &&& (18446744073709551615 - 2 ^ n) = if s.testBit n then s - 2 ^ n else s := by
  have hp : 2 ^ n ≤ 2 ^ 63 := Nat.pow_le_pow_right (by decide) (by omega)
  have hx : ∀ i, (18446744073709551615 - 2 ^ n).testBit i = (decide (i < 64) && decide (i ≠ n)) := by
    intro i
    have := Nat.testBit_two_pow_sub_succ (x := 2 ^ n) (n := 64) (by omega) i
    rw [show 2 ^ 64 - (2 ^ n + 1) = 18446744073709551615 - 2 ^ n by omega] at this
    rw [this, Nat.testBit_two_pow]
    by_cases e : n = i
    · subst e; simp
    · simp [e, Ne.symm e]
  have key : s &&& (18446744073709551615 - 2 ^ n) = s &&& (18446744073709551615 - 2 ^ n) := rfl
  have hsb : ∀ i, 64 ≤ i → s.testBit i = false := fun i hi => Nat.testBit_lt_two_pow (Nat.lt_of_lt_of_le hs (by
    show 2 ^ 64 ≤ 2 ^ i
    exact Nat.pow_le_pow_right (by decide) hi))
  by_cases h : s.testBit n = true
  · rw [if_pos h]
    generalize hy : s &&& (18446744073709551615 - 2 ^ n) = y
    have hyb : y.testBit n = false := by rw [← hy, Nat.testBit_and, hx]; simp
    have hyl : y < B64 := by rw [← hy]; exact Nat.lt_of_le_of_lt Nat.and_le_left hs
    have e := or_add y n hyl hn hyb
    have e2 : y ||| 2 ^ n = s := by
      apply Nat.eq_of_testBit_eq
      intro i
      rw [Nat.testBit_or, ← hy, Nat.testBit_and, hx, Nat.testBit_two_pow]
      by_cases ei : i = n
      · subst ei; simp [h]
      · by_cases hi : i < 64
        · simp [ei, hi, Ne.symm ei]
        · simp [hsb i (by omega), Ne.symm ei]
    omega
  · rw [if_neg h]
    have h' : s.testBit n = false := by simpa using h
    apply Nat.eq_of_testBit_eq
    intro i
    rw [Nat.testBit_and, hx]
    by_cases ei : i = n
    · subst ei; simp [h']
    · by_cases hi : i < 64
      · simp [ei, hi]
      · simp [hsb i (by omega)]
theorem without_eq (s : Nat) (hs : s < B64) (t : Int) : bits .andNot .u64 (s : Int) ((bit1 t : Nat) : Int) = (woutB s t : Nat) := by
  unfold woutB hasB
  rw [u64_andNot_nat _ _ hs (bit1_lt t)]
  unfold bit1
  by_cases h : vt t
  · rw [if_pos h, andNot_eq s t.toNat hs (by unfold vt at h; omega)]
    simp [h]
  · rw [if_neg h]
    simp only [h, decide_false, Bool.false_and]
    congr 2
    have := Nat.and_two_pow_sub_one_eq_mod s 64
    unfold B64 at hs
    rw [show 18446744073709551615 - 0 = 2 ^ 64 - 1 by decide, this]
    simp
    omega
theorem wHas (w : World) (s : Nat) (hs : s < B64) (t : Int) : Calls Tryd.prog 22 #[.int .u64 s, .int .i64 t] w fun e w' => e = .returned (.bool (hasB s t)) ∧ w = w' := by
  have E := Lib.hid (has_eq s hs t)
  go_enter Tryd.func22, Tryd.ntmps22
  go_wp2_with ((go_at_call 31; refine (wOne _ _).mono ?_; rintro e w' ⟨rfl, rfl⟩))
  go_ret
  rw [← E.out]
  exact ⟨rfl, rfl⟩
theorem wWith (w : World) (s : Nat) (hs : s < B64) (t : Int) : Calls Tryd.prog 25 #[.int .u64 s, .int .i64 t] w fun e w' => e = .returned (.int .u64 (withB s t : Nat)) ∧ w = w' := by
  have E := Lib.hid (with_eq s hs t)
  go_enter Tryd.func25, Tryd.ntmps25
  go_wp2_with ((go_at_call 31; refine (wOne _ _).mono ?_; rintro e w' ⟨rfl, rfl⟩))
  go_ret
  rw [← E.out]
  exact ⟨rfl, rfl⟩
theorem wWithout (w : World) (s : Nat) (hs : s < B64) (t : Int) : Calls Tryd.prog 27 #[.int .u64 s, .int .i64 t] w fun e w' => e = .returned (.int .u64 (woutB s t : Nat)) ∧ w = w' := by
  have E := Lib.hid (without_eq s hs t)
  go_enter Tryd.func27, Tryd.ntmps27
  go_wp2_with ((go_at_call 31; refine (wOne _ _).mono ?_; rintro e w' ⟨rfl, rfl⟩))
  go_ret
  rw [← E.out]
  exact ⟨rfl, rfl⟩

end Go.Proofs.YtcmfbkajafbjnaaDoor
