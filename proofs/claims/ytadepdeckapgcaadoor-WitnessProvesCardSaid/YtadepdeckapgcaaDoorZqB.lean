/- LawWitnessProves, part 2: what the proof stands on (merged by wip/shake.py out of the session's texts and of what the print wrote for this claim). -/
import Derived.ArgAppend
import Derived.Below
import Derived.BigQuiet
import Derived.Deep.AppendLies
import Derived.Deep.CutBlock
import Derived.Deep.DeepCutAuto
import Derived.Deep.Draws
import Derived.Deep.LoopGhost
import Derived.Deep.OwnRows
import Derived.Deep.QuietTactic
import Derived.Deep.RegionHeld3
import Derived.Deep.RegionLaw
import Derived.KernelRfl
import Derived.Laws.BitsAllLaws
import Derived.Laws.BitsLemmas
import Derived.Laws.BytesArg
import Derived.Laws.EntriesVeiled
import Derived.Laws.IdiomCopy
import Derived.Laws.MakeOwn
import Derived.Laws.OwnMore
import Derived.Laws.Rows
import Derived.Laws.Slices
import Derived.Lib.AppendStr
import Derived.Lib.ConvBytes
import Derived.Lib.SliceRun
import Derived.LoopTactic
import Derived.Maps.AppendAt
import Derived.OrdersHeld
import Derived.OwnWalk
import Derived.RowKit
import Derived.RowKit3
import Derived.Shelf.Spec.TrailingZeros
import Derived.Tactics
import Derived.Test.YtadepdeckapgcaaDoorProg
import Derived.Test.YtadepdeckapgcaaDoorRows
import Derived.WalkKit
import Derived.WideLaws
import Derived.Test.YtadepdeckapgcaaDoorZqA

section
namespace Go.Proofs.YtadepdeckapgcaaDoor
open Go.RowKit
set_option linter.unusedSimpArgs false
set_option linter.unusedVariables false
def B64 : Nat := 18446744073709551616
def vt (t : Int) : Prop := 0 ≤ t ∧ t ≤ 63
instance (t : Int) : Decidable (vt t) := by unfold vt; infer_instance
def bit1 (t : Int) : Nat := if vt t then 2 ^ t.toNat else 0
def hasB (s : Nat) (t : Int) : Bool := decide (vt t) && s.testBit t.toNat
def withB (s : Nat) (t : Int) : Nat := if vt t then s ||| 2 ^ t.toNat else s
def woutB (s : Nat) (t : Int) : Nat := if hasB s t then s - 2 ^ t.toNat else s
theorem pow_lt (t : Int) (h : vt t) : 2 ^ t.toNat < B64 := by
  have : t.toNat ≤ 63 := by unfold vt at h; omega
  exact Nat.lt_of_le_of_lt (Nat.pow_le_pow_right (by decide) this) (by decide)
theorem bit1_lt (t : Int) : bit1 t < B64 := by
  unfold bit1
  split
  · exact pow_lt t (by assumption)
  · decide
theorem shl_eq (t : Int) (h : vt t) : IntKind.u64.wrap (2 ^ t.toNat) = (bit1 t : Int) := by
  unfold bit1
  rw [if_pos h, IntKind.wrap_u64]
  have := pow_lt t h
  unfold B64 at this
  have e : (2 : Int) ^ t.toNat = ((2 ^ t.toNat : Nat) : Int) := by simp
  rw [e]
  generalize 2 ^ t.toNat = x at *
  omega
theorem wOne (w : World) (t : Int) : Calls Tryd.prog 104 #[.int .i64 t] w fun e w' => e = .returned (.int .u64 (bit1 t : Nat)) ∧ w = w' := by
  by_cases h0 : t < 0
  · have E : Hid (bit1 t = 0) := by unfold Hid bit1; rw [if_neg (by unfold vt; omega)]
    have h0' := decide_eq_true h0
    go_enter Tryd.func104, Tryd.ntmps104
    go_wp2
    go_ret
    rw [E.out]
    exact ⟨rfl, rfl⟩
  · by_cases h1 : t > 63
    · have E : Hid (bit1 t = 0) := by unfold Hid bit1; rw [if_neg (by unfold vt; omega)]
      have h0' := decide_eq_false h0
      have h1' : decide (63 < t) = true := decide_eq_true h1
      go_enter Tryd.func104, Tryd.ntmps104
      go_wp2
      go_ret
      rw [E.out]
      exact ⟨rfl, rfl⟩
    · have hv : vt t := by unfold vt; omega
      have E := Lib.hid (shl_eq t hv)
      have h0' := decide_eq_false h0
      have h1' : decide (63 < t) = false := decide_eq_false h1
      have h2 : 0 ≤ t := by omega
      have h3 : t ≤ 64 := by omega
      clear hv
      go_enter Tryd.func104, Tryd.ntmps104
      go_wp2
      go_ret
      rw [E.out]
      exact ⟨rfl, rfl⟩
theorem bit_ne (s : Nat) (n : Nat) : (s &&& 2 ^ n != 0) = s.testBit n := by
  rw [nat_bit, Nat.testBit_eq_decide_div_mod_eq]
  have h := Nat.mod_two_eq_zero_or_one (s / 2 ^ n)
  rcases h with h | h
  · rw [h]; simp
  · rw [h]; simp
theorem has_eq (s : Nat) (hs : s < B64) (t : Int) : (bits .and .u64 (s : Int) ((bit1 t : Nat) : Int) != 0) = hasB s t := by
  unfold hasB
  rw [u64_and_nat _ _ hs (bit1_lt t)]
  unfold bit1
  by_cases h : vt t
  · rw [if_pos h]
    simp only [h, decide_true, Bool.true_and]
    rw [← bit_ne]
    generalize s &&& 2 ^ t.toNat = x
    cases x <;> simp <;> omega
  · rw [if_neg h]
    simp [h]
theorem with_eq (s : Nat) (hs : s < B64) (t : Int) : bits .or .u64 (s : Int) ((bit1 t : Nat) : Int) = (withB s t : Nat) := by
  unfold withB
  rw [u64_or_nat _ _ hs (bit1_lt t)]
  unfold bit1
  split <;> simp
theorem or_add (s n : Nat) (hs : s < B64) (hn : n < 64) (h : s.testBit n = false) : s ||| 2 ^ n = s + 2 ^ n := by
  have e : s &&& 2 ^ n = 0 := by
    rw [nat_bit]
    rw [Nat.testBit_eq_decide_div_mod_eq] at h
    simp at h
    rw [h]; simp
  have q := BitVec.add_eq_or_of_and_eq_zero (BitVec.ofNat 65 s) (BitVec.ofNat 65 (2 ^ n)) (by
    apply BitVec.eq_of_toNat_eq
    have hp : 2 ^ n < 2 ^ 65 := Nat.pow_lt_pow_right (by decide) (by omega)
    unfold B64 at hs
    simp [Nat.mod_eq_of_lt hp, Nat.mod_eq_of_lt (show s < 2 ^ 65 by omega), e])
  have q2 := congrArg BitVec.toNat q
  have hp : 2 ^ n ≤ 2 ^ 63 := Nat.pow_le_pow_right (by decide) (by omega)
  unfold B64 at hs
  simp only [BitVec.toNat_add, BitVec.toNat_or, BitVec.toNat_ofNat] at q2
  rw [Nat.mod_eq_of_lt (show s < 2 ^ 65 by omega), Nat.mod_eq_of_lt (show 2 ^ n < 2 ^ 65 by omega), Nat.mod_eq_of_lt (by omega)] at q2
  exact q2.symm
theorem andNot_eq (s n : Nat) (hs : s < B64) (hn : n < 64) : s &&& (18446744073709551615 - 2 ^ n) = if s.testBit n then s - 2 ^ n else s := by
  have hp : 2 ^ n ≤ 2 ^ 63 := Nat.pow_le_pow_right (by decide) (by omega)
  have hx : ∀ i, (18446744073709551615 - 2 ^ n).testBit i = (decide (i < 64) && decide (i ≠ n)) := by
    intro i
    have := Nat.testBit_two_pow_sub_succ (x := 2 ^ n) (n := 64) (by omega) i
    rw [show 2 ^ 64 - (2 ^ n + 1) = 18446744073709551615 - 2 ^ n by omega] at this
    rw [this, Nat.testBit_two_pow]
    by_cases e : n = i
    · subst e; simp
    · simp [e, Ne.symm e]
  have key : s &&& (18446744073709551615 - 2 ^ n) = s &&& (18446744073709551615 - 2 ^ n) := rfl
  have hsb : ∀ i, 64 ≤ i → s.testBit i = false := fun i hi => Nat.testBit_lt_two_pow (Nat.lt_of_lt_of_le hs (by
    show 2 ^ 64 ≤ 2 ^ i
    exact Nat.pow_le_pow_right (by decide) hi))
  by_cases h : s.testBit n = true
  · rw [if_pos h]
    generalize hy : s &&& (18446744073709551615 - 2 ^ n) = y
    have hyb : y.testBit n = false := by rw [← hy, Nat.testBit_and, hx]; simp
    have hyl : y < B64 := by rw [← hy]; exact Nat.lt_of_le_of_lt Nat.and_le_left hs
    have e := or_add y n hyl hn hyb
    have e2 : y ||| 2 ^ n = s := by
      apply Nat.eq_of_testBit_eq
      intro i
      rw [Nat.testBit_or, ← hy, Nat.testBit_and, hx, Nat.testBit_two_pow]
      by_cases ei : i = n
      · subst ei; simp [h]
      · by_cases hi : i < 64
        · simp [ei, hi, Ne.symm ei]
        · simp [hsb i (by omega), Ne.symm ei]
    omega
  · rw [if_neg h]
    have h' : s.testBit n = false := by simpa using h
    apply Nat.eq_of_testBit_eq
    intro i
    rw [Nat.testBit_and, hx]
    by_cases ei : i = n
    · subst ei; simp [h']
    · by_cases hi : i < 64
      · simp [ei, hi]
      · simp [hsb i (by omega)]
theorem without_eq (s : Nat) (hs : s < B64) (t : Int) : bits .andNot .u64 (s : Int) ((bit1 t : Nat) : Int) = (woutB s t : Nat) := by
  unfold woutB hasB
  rw [u64_andNot_nat _ _ hs (bit1_lt t)]
  unfold bit1
  by_cases h : vt t
  · rw [if_pos h, andNot_eq s t.toNat hs (by unfold vt at h; omega)]
    simp [h]
  · rw [if_neg h]
    simp only [h, decide_false, Bool.false_and]
    congr 2
    have := Nat.and_two_pow_sub_one_eq_mod s 64
    unfold B64 at hs
    rw [show 18446744073709551615 - 0 = 2 ^ 64 - 1 by decide, this]
    simp
    omega
theorem wHas (w : World) (s : Nat) (hs : s < B64) (t : Int) : Calls Tryd.prog 62 #[.int .u64 s, .int .i64 t] w fun e w' => e = .returned (.bool (hasB s t)) ∧ w = w' := by
  have E := Lib.hid (has_eq s hs t)
  go_enter Tryd.func62, Tryd.ntmps62
  go_wp2_with ((go_at_call 104; refine (wOne _ _).mono ?_; rintro e w' ⟨rfl, rfl⟩))
  go_ret
  rw [← E.out]
  exact ⟨rfl, rfl⟩
theorem wWith (w : World) (s : Nat) (hs : s < B64) (t : Int) : Calls Tryd.prog 65 #[.int .u64 s, .int .i64 t] w fun e w' => e = .returned (.int .u64 (withB s t : Nat)) ∧ w = w' := by
  have E := Lib.hid (with_eq s hs t)
  go_enter Tryd.func65, Tryd.ntmps65
  go_wp2_with ((go_at_call 104; refine (wOne _ _).mono ?_; rintro e w' ⟨rfl, rfl⟩))
  go_ret
  rw [← E.out]
  exact ⟨rfl, rfl⟩
theorem wWithout (w : World) (s : Nat) (hs : s < B64) (t : Int) : Calls Tryd.prog 64 #[.int .u64 s, .int .i64 t] w fun e w' => e = .returned (.int .u64 (woutB s t : Nat)) ∧ w = w' := by
  have E := Lib.hid (without_eq s hs t)
  go_enter Tryd.func64, Tryd.ntmps64
  go_wp2_with ((go_at_call 104; refine (wOne _ _).mono ?_; rintro e w' ⟨rfl, rfl⟩))
  go_ret
  rw [← E.out]
  exact ⟨rfl, rfl⟩
end Go.Proofs.YtadepdeckapgcaaDoor
end

section
namespace Go.Proofs.YtadepdeckapgcaaDoor
open Go.RowKit
set_option linter.unusedSimpArgs false
set_option linter.unusedVariables false
def Tb (w : World) : Prop := TabAt 0 Lib.deBruijn64tab w
theorem Tb.quiet {w w' : World} (h : Tb w) (q : Quiet w w') : Tb w' := fun j hj => Fr.cell q (h j hj) (fun x => x)
theorem Tb.fr {F : Nat → Prop} {w w' : World} (h : Tb w) (q : Fr F w w') (hF : ¬ F 0) : Tb w' := fun j hj => Fr.cell q (h j hj) hF
theorem tz_core (x k idx : Nat) (w : World) (hx0 : ((x : Int) == 0) = false)
    (key : IntKind.u64.wrap (bits BinOp.and IntKind.u64 (x : Int) (IntKind.u64.wrap (-(x : Int))) * 285870213051353865) / 288230376151711744 = (idx : Int))
    (hi : idx < 64) (hk : k < 64) (hcell : w.cell? ⟨0, idx, none⟩ = some (.int .u8 k)) :
    Calls Tryd.prog 110 #[.int .u64 x] w fun e w' => e = .returned (.int .i64 k) ∧ w = w' := by
  go_enter Tryd.func110, Tryd.ntmps110
  go_wp2_with (simp only [key])
  go_ret
  exact ⟨rfl, rfl⟩
theorem wTz (w : World) (x : Nat) (hx : x < B64) (h0 : x ≠ 0) (hT : Tb w) :
    Calls Tryd.prog 110 #[.int .u64 x] w fun e w' => e = .returned (.int .i64 (Lib.ctz 64 x)) ∧ w = w' := by
  obtain ⟨hlow, hk⟩ := Lib.lowest_bit 64 x h0 hx
  obtain ⟨hi, htab⟩ := Lib.deBruijn64_at _ hk
  have hcell := hT _ hi
  rw [htab] at hcell
  exact tz_core x _ _ w (by simp; omega) (tz64_key x _ hx h0 hlow) hi hk hcell
def firstB (s : Nat) : Int := if s = 0 then -1 else (Lib.ctz 64 s : Int)
theorem wFirst (w : World) (s : Nat) (hs : s < B64) (hT : Tb w) : Calls Tryd.prog 63 #[.int .u64 s] w fun e w' => e = .returned (.int .i64 (firstB s)) ∧ w = w' := by
  have HT := Lib.hid hT; clear hT
  by_cases h0 : s = 0
  · subst h0
    have E : Hid (firstB 0 = -1) := rfl
    go_enter Tryd.func63, Tryd.ntmps63
    go_wp2
    go_ret
    rw [E.out]; exact ⟨rfl, rfl⟩
  · have E : Hid (firstB s = (Lib.ctz 64 s : Int)) := by unfold Hid firstB; rw [if_neg h0]
    have h1 : ((s : Int) == 0) = false := by simp; omega
    have H0 := Lib.hid h0; clear h0
    go_enter Tryd.func63, Tryd.ntmps63
    go_wp2_with (go_at_call 110; refine (wTz _ _ hs H0.out HT.out).mono ?_; rintro e w' ⟨rfl, rfl⟩)
    go_ret
    rw [E.out]; exact ⟨rfl, rfl⟩
end Go.Proofs.YtadepdeckapgcaaDoor
end

section
namespace Go.Proofs.YtadepdeckapgcaaDoor
open Go.RowKit Go.Proofs.YtadepdeckapgcaaDoorW.PrintWords
set_option linter.unusedSimpArgs false
set_option linter.unusedVariables false
def lb : Nat → Nat → Nat → List Int
  | 0, _, _ => []
  | f + 1, i, s => if s % 2 = 1 then (i : Int) :: lb f (i + 1) (s / 2) else lb f (i + 1) (s / 2)
theorem lb_succ (f i s : Nat) : lb (f + 1) i s = if s % 2 = 1 then (i : Int) :: lb f (i + 1) (s / 2) else lb f (i + 1) (s / 2) := rfl
def listB (s : Nat) : List Int := lb 64 0 s
theorem lb_zero (f i : Nat) : lb f i 0 = [] := by
  induction f generalizing i with
  | zero => rfl
  | succ f ih => rw [lb_succ, if_neg (by omega)]; exact ih _
theorem lb_len (f i s : Nat) : (lb f i s).length ≤ f := by
  induction f generalizing i s with
  | zero => simp [lb]
  | succ f ih => have := ih (i + 1) (s / 2); rw [lb_succ]; split <;> (try simp only [List.length_cons]) <;> omega
theorem and_pred_half (t : Nat) : (2 * t &&& (2 * t - 1)) = 2 * (t &&& (t - 1)) := by
  rcases Nat.eq_zero_or_pos t with h | h
  · rw [h]; rfl
  · apply Nat.eq_of_testBit_eq
    intro i
    cases i with
    | zero =>
      have e1 : (2 * t).testBit 0 = false := by rw [Nat.testBit_zero]; exact decide_eq_false (by omega)
      have e2 : (2 * (t &&& (t - 1))).testBit 0 = false := by rw [Nat.testBit_zero]; exact decide_eq_false (by omega)
      rw [Nat.testBit_and, e1, e2]; rfl
    | succ i =>
      rw [Nat.testBit_and, Nat.testBit_succ, Nat.testBit_succ, Nat.testBit_succ]
      rw [show 2 * t / 2 = t by omega, show (2 * t - 1) / 2 = t - 1 by omega, show 2 * (t &&& (t - 1)) / 2 = t &&& (t - 1) by omega, Nat.testBit_and]
theorem and_pred_odd (t : Nat) : (2 * t + 1 &&& 2 * t) = 2 * t := by
  apply Nat.eq_of_testBit_eq
  intro i
  cases i with
  | zero => simp [Nat.testBit_zero]
  | succ i =>
    rw [Nat.testBit_and, Nat.testBit_succ, Nat.testBit_succ]
    rw [show (2 * t + 1) / 2 = t by omega, show 2 * t / 2 = t by omega]; simp
theorem lb_step : ∀ (f i s : Nat), s ≠ 0 → s < 2 ^ f → lb f i s = ((i + Lib.ctzFrom f s : Nat) : Int) :: lb f i (s &&& (s - 1)) := by
  intro f
  induction f with
  | zero => intro i s h0 h; simp at h; omega
  | succ f ih =>
    intro i s h0 h
    rcases Nat.mod_two_eq_zero_or_one s with hm | hm
    · obtain ⟨t, rfl⟩ : ∃ t, s = 2 * t := ⟨s / 2, by omega⟩
      rw [and_pred_half]
      rw [lb_succ, lb_succ, Lib.ctzFrom]
      rw [if_neg (by omega), if_neg (by omega), if_neg (by omega)]
      rw [show 2 * t / 2 = t by omega, show 2 * (t &&& (t - 1)) / 2 = (t &&& (t - 1)) by omega]
      rw [ih (i + 1) t (by omega) (by rw [Nat.pow_succ] at h; omega)]
      congr 1; omega
    · obtain ⟨t, rfl⟩ : ∃ t, s = 2 * t + 1 := ⟨s / 2, by omega⟩
      rw [show 2 * t + 1 - 1 = 2 * t by omega, and_pred_odd]
      have e : lb (f + 1) i (2 * t) = lb f (i + 1) t := by
        rw [lb_succ, if_neg (by omega), show 2 * t / 2 = t by omega]
      rw [e]
      rw [lb_succ, Lib.ctzFrom]
      rw [if_pos (by omega), if_pos (by omega), show (2 * t + 1) / 2 = t by omega]
      simp
theorem listB_step (s : Nat) (h0 : s ≠ 0) (h : s < B64) : listB s = firstB s :: listB (s &&& (s - 1)) := by
  unfold listB firstB Lib.ctz
  rw [if_neg h0, if_neg h0, lb_step 64 0 s h0 h, Nat.zero_add]
theorem listB_len (s : Nat) : (listB s).length ≤ 64 := lb_len _ _ _
theorem and_pred_lt (s : Nat) (h0 : s ≠ 0) : s &&& (s - 1) < s := by
  have := @Nat.and_le_right s (s - 1)
  omega
theorem mem_lb : ∀ (f i s : Nat) (t : Int), t ∈ lb f i s ↔ ∃ j, j < f ∧ t = ((i + j : Nat) : Int) ∧ s.testBit j = true := by
  intro f
  induction f with
  | zero => intro i s t; simp [lb]
  | succ f ih =>
    intro i s t
    have e : t ∈ lb (f + 1) i s ↔ (s % 2 = 1 ∧ t = (i : Int)) ∨ t ∈ lb f (i + 1) (s / 2) := by
      rw [lb_succ]; split <;> simp [*]
    rw [e, ih]
    constructor
    · rintro (⟨h1, h2⟩ | ⟨j, h1, h2, h3⟩)
      · exact ⟨0, by omega, by simpa using h2, by rw [Nat.testBit_zero]; simpa using h1⟩
      · exact ⟨j + 1, by omega, by rw [h2]; omega, by rw [Nat.testBit_succ]; exact h3⟩
    · rintro ⟨j, h1, h2, h3⟩
      cases j with
      | zero => exact .inl ⟨by rw [Nat.testBit_zero] at h3; simpa using h3, by simpa using h2⟩
      | succ j => exact .inr ⟨j, by omega, by rw [h2]; omega, by rw [Nat.testBit_succ] at h3; exact h3⟩
theorem mem_listB (s : Nat) (t : Int) : t ∈ listB s ↔ hasB s t = true := by
  unfold listB hasB
  rw [mem_lb]
  constructor
  · rintro ⟨j, h1, rfl, h3⟩
    rw [decide_eq_true (by unfold vt; omega)]; simpa using h3
  · intro h
    simp only [Bool.and_eq_true, decide_eq_true_eq] at h
    refine ⟨t.toNat, ?_, ?_, h.2⟩ <;> have := h.1 <;> unfold vt at this <;> omega
theorem info_int : (Tryd.prog.info? 3).map (fun i => (i.zero, i.size, i.bytes)) = some (some (.int .i64 0), 1, 8) := by kernel_rfl
theorem and127 (x : Int) : ∃ c : Nat, c ≤ 127 ∧ bits .and .i64 x 127 = (c : Int) := by
  refine ⟨((BitVec.ofInt 64 x) &&& 127#64).toNat, ?_, ?_⟩
  · have h : ((BitVec.ofInt 64 x) &&& 127#64).toNat ≤ (127#64).toNat := by rw [BitVec.toNat_and]; exact Nat.and_le_right
    simpa using h
  · have h : ((BitVec.ofInt 64 x) &&& 127#64).toNat ≤ 127 := by
      have h : ((BitVec.ofInt 64 x) &&& 127#64).toNat ≤ (127#64).toNat := by rw [BitVec.toNat_and]; exact Nat.and_le_right
      simpa using h
    show IntKind.i64.wrap (((BitVec.ofInt 64 x) &&& (BitVec.ofInt 64 127)).toNat : Int) = _
    rw [show BitVec.ofInt 64 127 = 127#64 by rfl, IntKind.wrap_i64]
    omega
theorem wOnes (w : World) (s : Nat) : Calls Tryd.prog 140 #[.int .u64 s] w fun e w' => (∃ c : Nat, c ≤ 127 ∧ e = .returned (.int .i64 c)) ∧ w = w' := by
  go_enter Tryd.func140, Tryd.ntmps140
  go_wp2
  go_ret
  refine ⟨?_, rfl⟩
  obtain ⟨c, h1, h2⟩ := and127 _
  exact ⟨c, h1, ret_int h2⟩
theorem wCount (w : World) (s : Nat) : Calls Tryd.prog 111 #[.int .u64 s] w fun e w' => (∃ c : Nat, c ≤ 127 ∧ e = .returned (.int .i64 c)) ∧ w = w' := by
  go_enter Tryd.func111, Tryd.ntmps111
  go_wp2_with (go_at_call 140; refine (wOnes _ _).mono ?_; rintro e w' ⟨⟨c, hc, rfl⟩, rfl⟩)
  go_ret
  exact ⟨⟨c, hc, rfl⟩, rfl⟩
def LsRel (w : World) (s0 : Nat) (s l : Value) (wr : World) : Prop :=
  ∃ (x : Nat) (xs : List Int), x < B64 ∧ s = .int .u64 x ∧ wr.ownsRow w.heap.size 3 1 l xs.length (nums .i64 xs) ∧ xs ++ listB x = listB s0 ∧ Below w.heap.size w wr
theorem and_pred (x : Nat) (h0 : x ≠ 0) (h : x < B64) : bits .and .u64 (x : Int) ((x : Int) - 1) = ((x &&& (x - 1) : Nat) : Int) := by
  have e : ((x : Int) - 1) = ((x - 1 : Nat) : Int) := by omega
  rw [e, u64_and_nat _ _ h (by unfold B64 at h; omega)]
set_option maxRecDepth 100000 in
theorem wList (w : World) (s : Nat) (hs : s < B64) (hT : Tb w) : Calls Tryd.prog 66 #[.int .u64 s] w fun e w' => ∃ v, e = .returned v ∧ w'.ownsRow w.heap.size 3 1 v (listB s).length (nums .i64 (listB s)) ∧ Below w.heap.size w w' := by
  have HT := Lib.hid hT; clear hT
  obtain ⟨i0, hi, hz⟩ := Option.map_eq_some_iff.1 info_int
  simp only [Prod.mk.injEq] at hz
  obtain ⟨hz0, hz1, hz2⟩ := hz
  have mk : Hid (∀ (c : Nat), c ≤ 127 → ∀ W : World, (Instr.makeSlice 22 (.int .i64 0) (.int .i64 (c : Int))).run Tryd.prog W = .ok (.slice (some ⟨W.heap.size, 0, none⟩) 0 c) (W.alloc (.cells (madeCells #[.int .i64 0] c) 3))) := by
    intro c hc W
    have q := run_make (P := Tryd.prog) W 22 3 i0 _ Tryd.underlying22 hi hz0 .i64 .i64 0 c (by omega) (by omega) (by rw [hz2]; omega) (by omega)
    simp only [hz1, Int.toNat_zero, Int.toNat_natCast, Nat.mul_one] at q
    exact q
  clear hi hz0 hz1 hz2
  go_enter Tryd.func66, Tryd.ntmps66
  go_wp2_with (go_at_call 111; refine (wCount _ _).mono ?_; rintro e w' ⟨⟨c, hc, rfl⟩, rfl⟩; have mkc := mk.out c hc)
  clear mkc
  go_loopw [0, 3] (fun s3 l wr => LsRel w s s3 l wr) (fun s3 _ _ => (intOf s3).toNat)
  case atStart =>
    refine ⟨s, [], hs, rfl, ?_, by simp, (Below.refl _ _).alloc (Nat.le_refl _) _⟩
    have q := World.ownsRow_made (base := w.heap.size) (e := 3) (size := 1) w (madeCells #[.int .i64 0] c) c (Nat.le_refl _) (by simp [maxLen]; omega) (by rw [size_madeCells, Nat.mul_one])
    simpa [nums] using q
  case round =>
    obtain ⟨x, xs, hx, rfl, hown, hls, hb⟩ := hrel
    by_cases h0 : x = 0
    · subst h0
      have e : xs = listB s := by rw [← hls]; simp [listB, lb_zero]
      subst e
      clear hls
      go_wp2
      go_ret
      exact ⟨_, rfl, hown, hb⟩
    · have hT' : Tb wr := fun j hj => (hb.cell (World.block_lt_of_cell? _ _ (HT.out j hj))).trans (HT.out j hj)
      have HF := Lib.hid (wFirst wr x hx hT')
      have hx0 : ((x : Int) != 0) = true := by simp; omega
      have hst := listB_step x h0 hx
      have hlen : xs.length + 1 ≤ 64 := by
        have := listB_len s; rw [← hls, hst] at this; simp at this; omega
      have hnew : Hid ((xs ++ [firstB x]) ++ listB (x &&& (x - 1)) = listB s) := by
        rw [← hls, hst]; unfold Hid; simp
      have hand := Lib.hid (and_pred x h0 hx)
      have hlt := and_pred_lt x h0
      have hx64 := hx; unfold B64 at hx64
      have hbz := Lib.hid hb
      have HO := Lib.hid hown
      clear hls hst hT' hown hb
      generalize firstB x = fx at *
      go_wp2_with (first
        | (go_at_call 63; refine HF.out.mono ?_; rintro e w' ⟨rfl, rfl⟩)
        | (at_builtin; refine print_append_num _ rfl _ _ 22 3 .i64 8 rfl Tryd.underlying22 info_int (by decide) _ xs fx rfl rfl HO.out hbz.out hbz.out.size (by omega) ?_; intro v1 w1 hown1 hb1 hg1 hat1; have HO1 := Lib.hid hown1; have HB1 := Lib.hid hb1; clear hown1 hb1 hg1 hat1))
      go_roundw
      case rel => exact ⟨x &&& (x - 1), xs ++ [fx], Nat.lt_of_le_of_lt Nat.and_le_left hx, by rw [← hand.out], HO1.out, hnew.out, HB1.out⟩
      case measure => rw [hand.out]; simp [intOf]; omega
end Go.Proofs.YtadepdeckapgcaaDoor
end

section
namespace Go.Proofs.YtadepdeckapgcaaDoor.PWitnessTells
open Go.RowKit Go.Proofs.YtadepdeckapgcaaDoorW.PrintWords Go.Proofs.YtadepdeckapgcaaDoorW.PrintLast Go.Proofs.YtadepdeckapgcaaDoorW.PrintMore
attribute [local go_sem] max2_int min2_int max_two min_two max_three min_three max_four min_four
set_option linter.unusedVariables false
set_option linter.unusedSimpArgs false
def errW : Option Int → Value
 | none => .nilIface
 | some c => .iface 0 (.int .i64 c)
theorem errW_none : errW none = .nilIface := rfl
theorem errW_some (c : Int) : errW (some c) = .iface 0 (.int .i64 c) := rfl
theorem info92 : (Tryd.prog.info? 92).map (fun i => (i.zero, i.size, i.bytes)) = some (some (.agg #[(.bool false), (.slice none 0 0)]), 2, 32) := by kernel_rfl
theorem info93 : (Tryd.prog.info? 93).map (fun i => (i.zero, i.size, i.bytes)) = some (some (.slice none 0 0), 1, 24) := by kernel_rfl
theorem info96 : (Tryd.prog.info? 96).map (fun i => (i.zero, i.size, i.bytes)) = some (some (.agg #[(.int .i64 0), (.slice none 0 0)]), 2, 32) := by kernel_rfl
theorem info108 : (Tryd.prog.info? 108).map (fun i => (i.zero, i.size, i.bytes)) = some (some (.agg #[(.int .i64 0), (.int .i64 0)]), 2, 16) := by kernel_rfl
structure S108 where
 f0 : Int
 f1 : Int
def z108 : S108 := ⟨(0 : Int), (0 : Int)⟩
def k108 : Kd S108 := Kd.iso (Kd.pair (Kd.int .i64) (Kd.int .i64)) (fun x : S108 => (x.f0, x.f1))
theorem k108_open {w : World} {x : S108} {cs : List Value} (h : k108.K w x cs) : cs = [.int .i64 x.f0, .int .i64 x.f1] := by
 obtain ⟨_, _, rfl, rfl, rfl⟩ := h
 exact rfl
theorem k108_mk (w : World) (x : S108)  : k108.K w x [.int .i64 x.f0, .int .i64 x.f1] := ⟨[.int .i64 x.f0], [.int .i64 x.f1], rfl, rfl, rfl⟩
theorem k108_mkM (w : World) (base : Nat) (ok : Nat → Prop) (x : S108)  : k108.M w base ok x [.int .i64 x.f0, .int .i64 x.f1] := ⟨[.int .i64 x.f0], [.int .i64 x.f1], rfl, rfl, rfl⟩
def rd_T108 (xs : List S108) (i : Int) : S108 := xs.getD i.toNat z108
theorem at_T108 {w : World} {A : Option Addr} {n : Nat} {xs : List S108} (h : Kd.C k108 w A n xs) (i : Int) (h0 : 0 ≤ i) (h1 : i < n) : ∃ ad , A = some ad ∧ w.cell? (ad.add (i.toNat * 2)) = some (.int .i64 (rd_T108 xs i).f0) ∧ w.cell? ⟨(ad.add (i.toNat * 2)).block, (ad.add (i.toNat * 2)).off + 1, none⟩ = some (.int .i64 (rd_T108 xs i).f1) := by
 obtain ⟨ad, c, e, _, hK, hc0⟩ := Kd.C_get h z108 i h0 h1
 have hc : ∀ j u, c[j]? = some u → w.cell? (ad.add (i.toNat * 2 + j)) = some u := hc0
 obtain rfl := k108_open hK
 exact ⟨ad, e, hc 0 _ rfl, by rw [← add_field _ _ 1 (by omega)]; exact hc 1 _ rfl⟩
structure S96 where
 f0 : Int
 f1 : (List S108)
def z96 : S96 := ⟨(0 : Int), ([] : List S108)⟩
def k96 : Kd S96 := Kd.iso (Kd.pair (Kd.int .i64) (Kd.slice 108 k108)) (fun x : S96 => (x.f0, x.f1))
theorem k96_open {w : World} {x : S96} {cs : List Value} (h : k96.K w x cs) : ∃ A1 c1, cs = [.int .i64 x.f0, .slice A1 x.f1.length c1] ∧ x.f1.length ≤ c1 ∧ k108.C w A1 x.f1.length x.f1 := by
 obtain ⟨_, _, rfl, rfl, ⟨A1, c1, rfl, l1, g1⟩⟩ := h
 exact ⟨A1, c1, rfl, l1, g1⟩
theorem k96_mk (w : World) (x : S96) {A1 : Option Addr} {c1 : Nat} (l1 : x.f1.length ≤ c1) (g1 : k108.C w A1 x.f1.length x.f1) : k96.K w x [.int .i64 x.f0, .slice A1 x.f1.length c1] := ⟨[.int .i64 x.f0], [.slice A1 x.f1.length c1], rfl, rfl, ⟨A1, c1, rfl, l1, g1⟩⟩
theorem k96_mkM (w : World) (base : Nat) (ok : Nat → Prop) (x : S96) {v1 : Value} (g1 : k108.R 108 w base ok v1 x.f1) : k96.M w base ok x [.int .i64 x.f0, v1] := ⟨[.int .i64 x.f0], [v1], rfl, rfl, ⟨v1, rfl, g1⟩⟩
theorem k96_mkF (W : World) (ok : Nat → Prop) (x : S96) {A1 : Option Addr} {c1 : Nat} (l1 : x.f1.length ≤ c1) (g1 : Kd.F k108 W ok A1 x.f1.length x.f1) : Kd.FK k96 W ok x [.int .i64 x.f0, .slice A1 x.f1.length c1] := fun W2 hW => k96_mk W2 x l1 (g1 W2 hW)
def rd_T96 (xs : List S96) (i : Int) : S96 := xs.getD i.toNat z96
theorem at_T96 {w : World} {A : Option Addr} {n : Nat} {xs : List S96} (h : Kd.C k96 w A n xs) (i : Int) (h0 : 0 ≤ i) (h1 : i < n) : ∃ ad A1 c1, A = some ad ∧ w.cell? (ad.add (i.toNat * 2)) = some (.int .i64 (rd_T96 xs i).f0) ∧ w.cell? ⟨(ad.add (i.toNat * 2)).block, (ad.add (i.toNat * 2)).off + 1, none⟩ = some (.slice A1 (rd_T96 xs i).f1.length c1) ∧ (rd_T96 xs i).f1.length ≤ c1 ∧ k108.C w A1 (rd_T96 xs i).f1.length (rd_T96 xs i).f1 := by
 obtain ⟨ad, c, e, _, hK, hc0⟩ := Kd.C_get h z96 i h0 h1
 have hc : ∀ j u, c[j]? = some u → w.cell? (ad.add (i.toNat * 2 + j)) = some u := hc0
 obtain ⟨A1, c1, rfl, l1, g1⟩ := k96_open hK
 exact ⟨ad, A1, c1, e, hc 0 _ rfl, by rw [← add_field _ _ 1 (by omega)]; exact hc 1 _ rfl, l1, g1⟩
def rd_L5 (xs : List (List S96)) (i : Int) : (List S96) := xs.getD i.toNat ([] : List S96)
theorem at_L5 {w : World} {A : Option Addr} {n : Nat} {xs : List (List S96)} (h : Kd.C (Kd.slice 96 k96) w A n xs) (i : Int) (h0 : 0 ≤ i) (h1 : i < n) : ∃ ad A0 c0, A = some ad ∧ w.cell? (ad.add i.toNat) = some (.slice A0 (rd_L5 xs i).length c0) ∧ (rd_L5 xs i).length ≤ c0 ∧ k96.C w A0 (rd_L5 xs i).length (rd_L5 xs i) := by
 obtain ⟨ad, c, e, _, hK, hc0⟩ := Kd.C_get h ([] : List S96) i h0 h1
 have hc : ∀ j u, c[j]? = some u → w.cell? (ad.add (i.toNat * 1 + j)) = some u := hc0
 obtain ⟨A0, c0, rfl, l0, g0⟩ := hK
 exact ⟨ad, A0, c0, e, by have hq := hc 0 _ rfl; rwa [Nat.mul_one, Nat.add_zero] at hq, l0, g0⟩
structure S92 where
 f0 : Bool
 f1 : (List (List S96))
def z92 : S92 := ⟨false, ([] : List (List S96))⟩
def k92 : Kd S92 := Kd.iso (Kd.pair Kd.bool (Kd.slice 93 (Kd.slice 96 k96))) (fun x : S92 => (x.f0, x.f1))
theorem k92_open {w : World} {x : S92} {cs : List Value} (h : k92.K w x cs) : ∃ A1 c1, cs = [.bool x.f0, .slice A1 x.f1.length c1] ∧ x.f1.length ≤ c1 ∧ (Kd.slice 96 k96).C w A1 x.f1.length x.f1 := by
 obtain ⟨_, _, rfl, rfl, ⟨A1, c1, rfl, l1, g1⟩⟩ := h
 exact ⟨A1, c1, rfl, l1, g1⟩
theorem k92_openM {w : World} {base : Nat} {ok : Nat → Prop} {x : S92} {cs : List Value} (h : k92.M w base ok x cs) : ∃ v1, cs = [.bool x.f0, v1] ∧ (Kd.slice 96 k96).R 93 w base ok v1 x.f1 := by
 obtain ⟨_, _, rfl, rfl, ⟨v1, rfl, g1⟩⟩ := h
 exact ⟨v1, rfl, g1⟩
theorem k92_mk (w : World) (x : S92) {A1 : Option Addr} {c1 : Nat} (l1 : x.f1.length ≤ c1) (g1 : (Kd.slice 96 k96).C w A1 x.f1.length x.f1) : k92.K w x [.bool x.f0, .slice A1 x.f1.length c1] := ⟨[.bool x.f0], [.slice A1 x.f1.length c1], rfl, rfl, ⟨A1, c1, rfl, l1, g1⟩⟩
theorem k92_mkM (w : World) (base : Nat) (ok : Nat → Prop) (x : S92) {v1 : Value} (g1 : (Kd.slice 96 k96).R 93 w base ok v1 x.f1) : k92.M w base ok x [.bool x.f0, v1] := ⟨[.bool x.f0], [v1], rfl, rfl, ⟨v1, rfl, g1⟩⟩
def rd_T92 (xs : List S92) (i : Int) : S92 := xs.getD i.toNat z92
theorem at_T92 {w : World} {A : Option Addr} {n : Nat} {xs : List S92} (h : Kd.C k92 w A n xs) (i : Int) (h0 : 0 ≤ i) (h1 : i < n) : ∃ ad A1 c1, A = some ad ∧ w.cell? (ad.add (i.toNat * 2)) = some (.bool (rd_T92 xs i).f0) ∧ w.cell? ⟨(ad.add (i.toNat * 2)).block, (ad.add (i.toNat * 2)).off + 1, none⟩ = some (.slice A1 (rd_T92 xs i).f1.length c1) ∧ (rd_T92 xs i).f1.length ≤ c1 ∧ (Kd.slice 96 k96).C w A1 (rd_T92 xs i).f1.length (rd_T92 xs i).f1 := by
 obtain ⟨ad, c, e, _, hK, hc0⟩ := Kd.C_get h z92 i h0 h1
 have hc : ∀ j u, c[j]? = some u → w.cell? (ad.add (i.toNat * 2 + j)) = some u := hc0
 obtain ⟨A1, c1, rfl, l1, g1⟩ := k92_open hK
 exact ⟨ad, A1, c1, e, hc 0 _ rfl, by rw [← add_field _ _ 1 (by omega)]; exact hc 1 _ rfl, l1, g1⟩
end Go.Proofs.YtadepdeckapgcaaDoor.PWitnessTells
end

section
namespace Go.Proofs.YtadepdeckapgcaaDoor
open Go.RowKit Go.Proofs.YtadepdeckapgcaaDoorW.PrintWords Go.Proofs.YtadepdeckapgcaaDoorW.PrintLast Go.Proofs.YtadepdeckapgcaaDoorW.PrintMore PWitnessTells
set_option linter.unusedSimpArgs false
set_option linter.unusedVariables false
def comesL (dead : Nat) : Int → List S108 → Int
  | n, [] => n
  | n, s :: r => comesL dead (if hasB dead s.f0 then n else wrap64 (n + s.f1)) r
theorem comesL_cons (dead : Nat) (n : Int) (s : S108) (r : List S108) : comesL dead n (s :: r) = comesL dead (if hasB dead s.f0 then n else wrap64 (n + s.f1)) r := rfl
def lacksL (dead : Nat) : Nat → List S96 → Int
  | _, [] => -1
  | i, m :: r => if comesL dead 0 m.f1 < m.f0 then (i : Int) else lacksL dead (i + 1) r
theorem drop_cons {α : Type} (d : α) (l : List α) (k : Nat) (h : k < l.length) : l.drop k = l.getD k d :: l.drop (k + 1) := by
  rw [List.drop_eq_getElem_cons h]; congr 1; simp [h]
theorem Quiet.bel {w w' : World} (h : Quiet w w') : Below w.heap.size w w' := Fr.below h (fun _ _ x => x)
theorem Quiet.of {w w' : World} (h : Below w.heap.size w w') : Quiet w w' := Fr.of_below h
def CmRel (w : World) (l : List S108) (dead : Nat) (n i : Value) (wr : World) : Prop :=
  ∃ (k : Nat) (x : Int), k ≤ l.length ∧ i = .int .i64 k ∧ n = .int .i64 x ∧ comesL dead x (l.drop k) = comesL dead 0 l ∧ Quiet w wr
set_option maxRecDepth 100000 in
theorem wComes (w : World) (K : Int) (A : Option Addr) (c : Nat) (l : List S108) (hC : Kd.C k108 w A l.length l) (hc : l.length ≤ c) (dead : Nat) (hd : dead < B64) :
    Calls Tryd.prog 103 #[.agg #[.int .i64 K, .slice A l.length c], .int .u64 dead] w fun e w' => e = .returned (.int .i64 (comesL dead 0 l)) ∧ Quiet w w' := by
  have hm := hC.2.1
  have HC := Lib.hid hC; clear hC
  go_enter Tryd.func103, Tryd.ntmps103
  go_wp2
  go_loopw [5, 11] (fun n i wr => CmRel w l dead n i wr) (fun _ i _ => l.length - (intOf i).toNat)
  case atStart => exact ⟨0, 0, Nat.zero_le _, rfl, rfl, rfl, by (repeat (first | exact Fr.refl _ _ | assumption | (refine Fr.quiet ?_ (by assumption)) | refine Fr.quiet ?_ HF.out | refine Fr.quiet ?_ HF2.out | refine Fr.drew ?_ | refine Fr.drewN ?_ _ | refine Fr.alloc ?_ _ | refine Fr.setCell ?_ (.inr (by first | omega | (simp; done) | (simp; omega))) _))⟩
  case round =>
    obtain ⟨k, x, hk, rfl, rfl, hx, hQ⟩ := hrel
    by_cases hlt : k < l.length
    · have hC' := Kd.C_below HC.out hQ.bel
      obtain ⟨ad, hA, h0, h1⟩ := at_T108 hC' k (by omega) (by omega)
      have hdr := drop_cons z108 l k hlt
      have hrd : rd_T108 l (k : Int) = l.getD k z108 := rfl
      rw [hrd] at h0 h1
      rw [hdr] at hx
      generalize l.getD k z108 = s at *
      obtain ⟨t, nn⟩ := s
      have HX := Lib.hid hx; have HQ := Lib.hid hQ
      simp only [Int.toNat_natCast] at h0 h1
      subst hA
      clear hx hQ hC' hdr hrd
      cases hb : hasB dead t
      · have HX2 : Hid (comesL dead (wrap64 (x + nn)) (l.drop (k + 1)) = comesL dead 0 l) := by
          have q := HX.out; rw [comesL_cons] at q; simp only [hb] at q; exact q
        go_wp2_with (go_at_call 62; refine (wHas _ _ hd _).mono ?_; rintro e w' ⟨rfl, rfl⟩)
        go_roundw
        case rel => exact ⟨k + 1, _, by omega, by go_num, rfl, HX2.out, by have q := HQ.out; (repeat (first | exact Fr.refl _ _ | assumption | (refine Fr.quiet ?_ (by assumption)) | refine Fr.quiet ?_ HF.out | refine Fr.quiet ?_ HF2.out | refine Fr.drew ?_ | refine Fr.drewN ?_ _ | refine Fr.alloc ?_ _ | refine Fr.setCell ?_ (.inr (by first | omega | (simp; done) | (simp; omega))) _))⟩
        case measure => simp [intOf]; omega
      · have HX2 : Hid (comesL dead x (l.drop (k + 1)) = comesL dead 0 l) := by
          have q := HX.out; rw [comesL_cons] at q; simp only [hb, if_true] at q; exact q
        go_wp2_with (go_at_call 62; refine (wHas _ _ hd _).mono ?_; rintro e w' ⟨rfl, rfl⟩)
        go_roundw
        case rel => exact ⟨k + 1, x, by omega, by go_num, rfl, HX2.out, by have q := HQ.out; (repeat (first | exact Fr.refl _ _ | assumption | (refine Fr.quiet ?_ (by assumption)) | refine Fr.quiet ?_ HF.out | refine Fr.quiet ?_ HF2.out | refine Fr.drew ?_ | refine Fr.drewN ?_ _ | refine Fr.alloc ?_ _ | refine Fr.setCell ?_ (.inr (by first | omega | (simp; done) | (simp; omega))) _))⟩
        case measure => simp [intOf]; omega
    · have hx' : x = comesL dead 0 l := by rw [← hx, List.drop_of_length_le (by omega)]; rfl
      subst hx'
      clear hx
      go_wp2
      go_ret
      exact ⟨rfl, hQ⟩
theorem lacksL_cons (dead i : Nat) (m : S96) (r : List S96) : lacksL dead i (m :: r) = if comesL dead 0 m.f1 < m.f0 then (i : Int) else lacksL dead (i + 1) r := rfl
theorem wLackOne (w : World) (m : S96) (A : Option Addr) (c : Nat) (hC : Kd.C k108 w A m.f1.length m.f1) (hc : m.f1.length ≤ c) (dead : Nat) (hd : dead < B64) (b : Nat) (hb : b < w.heap.size) (hcell : w.cell? ⟨b, 0, none⟩ = some (.int .u64 dead)) :
    Calls Tryd.prog 102 #[.agg #[.int .i64 m.f0, .slice A m.f1.length c], .pointer (some ⟨b, 0, none⟩)] w fun e w' => e = .returned (.bool (decide (comesL dead 0 m.f1 < m.f0))) ∧ Quiet w w' := by
  have hm := hC.2.1
  have hC1 := Kd.C_below hC (Below.alloc (Below.refl w.heap.size w) (Nat.le_refl _) (.cells #[.int .i64 m.f0, .slice A m.f1.length c] 96)); clear hC
  have hB := Blk.new w #[.int .i64 m.f0, .slice A m.f1.length c] 96
  have hQ0 : Quiet w (w.alloc (.cells #[.int .i64 m.f0, .slice A m.f1.length c] 96)) := by (repeat (first | exact Fr.refl _ _ | assumption | (refine Fr.quiet ?_ (by assumption)) | refine Fr.quiet ?_ HF.out | refine Fr.quiet ?_ HF2.out | refine Fr.drew ?_ | refine Fr.drewN ?_ _ | refine Fr.alloc ?_ _ | refine Fr.setCell ?_ (.inr (by first | omega | (simp; done) | (simp; omega))) _))
  have hcell1 := hQ0.cell hcell (fun x => x)
  have hlt : b < (w.alloc (.cells #[.int .i64 m.f0, .slice A m.f1.length c] 96)).heap.size := by simp; omega
  go_enter Tryd.func102, Tryd.ntmps102
  go_wp2
  generalize hw1 : w.alloc (.cells #[.int .i64 m.f0, .slice A m.f1.length c] 96) = w1 at *
  have HS : Hid (∀ w', Quiet w1 w' → w'.cell? ⟨w.heap.size, 0, none⟩ = some (.int .i64 m.f0) ∧ w'.cell? ⟨w.heap.size, 1, none⟩ = some (.slice A m.f1.length c) ∧ w'.cell? ⟨b, 0, none⟩ = some (.int .u64 dead) ∧ Quiet w1 w') := by
    intro w' q
    refine ⟨q.cell (by have := hB.cell 0; simpa using this) (fun x => x), q.cell (by have := hB.cell 1; simpa using this) (fun x => x), q.cell hcell1 (fun x => x), q⟩
  have HC := Lib.hid hC1; have HQ0 := Lib.hid hQ0
  have CM := Lib.hid (fun wz (q : Quiet w1 wz) => wComes wz m.f0 A c m.f1 (Kd.C_below hC1 q.bel) hc dead hd)
  clear hC1 hQ0 hcell1 hB hcell hw1
  go_region_held3 (fun w' => w'.cell? ⟨w.heap.size, 0, none⟩ = some (.int .i64 m.f0) ∧ w'.cell? ⟨w.heap.size, 1, none⟩ = some (.slice A m.f1.length c) ∧ w'.cell? ⟨b, 0, none⟩ = some (.int .u64 dead) ∧ Quiet w1 w')
    (exact HS.out _ (by first | assumption | exact Fr.refl _ _ | exact (Fr.refl _ _).drew))
    (first | (go_at_call 103; refine (CM.out _ (by first | assumption | exact Fr.refl _ _ | exact (Fr.refl _ _).drew)).mono ?_; rintro e w' ⟨rfl, hf⟩; have HF := Lib.hid hf.undrew; clear hf))
  all_goals (go_wp2; go_ret)
  all_goals exact ⟨rfl, HQ0.out.quiet HF.out⟩
def IxRel (w : World) (l : List S96) (dead : Nat) (i : Value) (wr : World) : Prop :=
  ∃ k : Nat, k ≤ l.length ∧ i = .int .i64 k ∧ lacksL dead k (l.drop k) = lacksL dead 0 l ∧ Quiet w wr
set_option maxRecDepth 100000 in
theorem wIndexF (w : World) (l : List S96) (A : Option Addr) (c : Nat) (hC : Kd.C k96 w A l.length l) (hc : l.length ≤ c) (dead : Nat) (hd : dead < B64) (b : Nat) (hb : b < w.heap.size) (hcell : w.cell? ⟨b, 0, none⟩ = some (.int .u64 dead)) :
    Calls Tryd.prog 101 #[.slice A l.length c, .func (.func 102) #[] #[.pointer (some ⟨b, 0, none⟩)]] w fun e w' => e = .returned (.int .i64 (lacksL dead 0 l)) ∧ Quiet w w' := by
  have hm := hC.2.1
  have HC := Lib.hid hC; clear hC
  have HCell := Lib.hid hcell; clear hcell
  have eg : ∀ args w, (callFunc 102 args).run Tryd.prog w = .ok (.enter 102 args) w := enters_of Tryd.func102 (by kernel_rfl) rfl
  go_enter Tryd.func101, Tryd.ntmps101
  go_wp2
  go_loopw [8] (fun i wr => IxRel w l dead i wr) (fun i _ => l.length - (intOf i).toNat)
  case atStart => exact ⟨0, Nat.zero_le _, rfl, rfl, by (repeat (first | exact Fr.refl _ _ | assumption | (refine Fr.quiet ?_ (by assumption)) | refine Fr.quiet ?_ HF.out | refine Fr.quiet ?_ HF2.out | refine Fr.drew ?_ | refine Fr.drewN ?_ _ | refine Fr.alloc ?_ _ | refine Fr.setCell ?_ (.inr (by first | omega | (simp; done) | (simp; omega))) _))⟩
  case round =>
    obtain ⟨k, hk, rfl, hx, hQ⟩ := hrel
    by_cases hlt : k < l.length
    · have hC' := Kd.C_below HC.out hQ.bel
      obtain ⟨ad, A1, c1, hA, h0, h1, hl1, hC1⟩ := at_T96 hC' k (by omega) (by omega)
      have hdr := drop_cons z96 l k hlt
      have hrd : rd_T96 l (k : Int) = l.getD k z96 := rfl
      rw [hrd] at h0 h1 hl1 hC1
      rw [hdr] at hx
      generalize l.getD k z96 = m at *
      simp only [Int.toNat_natCast] at h0 h1
      subst hA
      have hcell' := hQ.cell HCell.out (fun x => x)
      have LK := Lib.hid (wLackOne wr m A1 c1 hC1 hl1 dead hd b (Nat.lt_of_lt_of_le hb hQ.size) hcell')
      have HQ := Lib.hid hQ
      rw [lacksL_cons] at hx
      clear hC' hC1 hcell' hQ hdr hrd
      by_cases ht : comesL dead 0 m.f1 < m.f0
      · rw [if_pos ht] at hx
        rw [decide_eq_true ht] at LK
        have HX := Lib.hid hx
        clear ht hx hl1
        go_wp2_with ((go_at_call 102; refine LK.out.mono ?_; rintro e w' ⟨rfl, hf⟩; have HF := Lib.hid hf; clear hf))
        go_ret
        rw [← HX.out]
        exact ⟨rfl, HQ.out.quiet HF.out⟩
      · rw [if_neg ht] at hx
        rw [decide_eq_false ht] at LK
        have HX := Lib.hid hx
        clear ht hx hl1
        go_wp2_with ((go_at_call 102; refine LK.out.mono ?_; rintro e w' ⟨rfl, hf⟩; have HF := Lib.hid hf; clear hf))
        go_roundw
        case rel => exact ⟨k + 1, by omega, by go_num, HX.out, HQ.out.quiet HF.out⟩
        case measure => simp [intOf]; omega
    · have hx' : lacksL dead 0 l = -1 := by rw [← hx, List.drop_of_length_le (by omega)]; rfl
      have HX := Lib.hid hx'
      clear hx hx'
      go_wp2
      go_ret
      rw [HX.out]
      exact ⟨rfl, hQ⟩
theorem wLacks (w : World) (l : List S96) (A : Option Addr) (c : Nat) (hC : Kd.C k96 w A l.length l) (hc : l.length ≤ c) (dead : Nat) (hd : dead < B64) :
    Calls Tryd.prog 56 #[.slice A l.length c, .int .u64 dead] w fun e w' => e = .returned (.int .i64 (lacksL dead 0 l)) ∧ Quiet w w' := by
  have IX := Lib.hid (wIndexF (w.alloc (.cells #[.int .u64 dead] 100)) l A c (Kd.C_below hC (Below.alloc (Below.refl w.heap.size w) (Nat.le_refl _) _)) hc dead hd w.heap.size (by simp) (by simp))
  clear hC
  go_enter Tryd.func56, Tryd.ntmps56
  go_wp2_with ((go_at_call 101; refine IX.out.mono ?_; rintro e w' ⟨rfl, hf⟩; have HF := Lib.hid hf; clear hf))
  go_ret
  exact ⟨rfl, by have q := HF.out; (repeat (first | exact Fr.refl _ _ | assumption | (refine Fr.quiet ?_ (by assumption)) | refine Fr.quiet ?_ HF.out | refine Fr.quiet ?_ HF2.out | refine Fr.drew ?_ | refine Fr.drewN ?_ _ | refine Fr.alloc ?_ _ | refine Fr.setCell ?_ (.inr (by first | omega | (simp; done) | (simp; omega))) _))⟩
end Go.Proofs.YtadepdeckapgcaaDoor
end

section
namespace Go.Proofs.YtadepdeckapgcaaDoor.PWitnessTells
open Go.RowKit Go.Proofs.YtadepdeckapgcaaDoorW.PrintWords Go.Proofs.YtadepdeckapgcaaDoorW.PrintLast Go.Proofs.YtadepdeckapgcaaDoorW.PrintMore
attribute [local go_sem] max2_int min2_int max_two min_two max_three min_three max_four min_four
set_option linter.unusedVariables false
set_option linter.unusedSimpArgs false
def report_units.f (a0 : Int) : Option (Bool) := if a0 ≥ 1 then (some (decide (a0 ≤ 1000))) else (some false)
set_option maxHeartbeats 8000000 in
set_option maxRecDepth 100000 in
theorem report_units.calls (a0 : Int) (r : Bool) (w : World) (h : report_units.f a0 = some r) :
  Calls Tryd.prog 159 #[.int .i64 a0] w fun e w' => e = .returned (.bool r) ∧ Drawn0 w w' := by
 have H : (if a0 ≥ 1 then (some (decide (a0 ≤ 1000))) else (some false)) = some r := h
 clear h
 by_cases c2 : a0 ≥ 1
 ·rw [if_pos c2] at H
  have c2b0 : decide (1 ≤ a0) = true := decide_eq_true c2
  clear c2
  obtain rfl := Option.some.inj H
  go_enter Tryd.func159, Tryd.ntmps159
  go_wp2
  go_ret
  exact ⟨by first | rfl | (simp; done) | (simp [*]; done), by repeat (first | exact Drawn0.refl _ | apply Drawn0.step)⟩
 ·rw [if_neg c2] at H
  have c2b0 : decide (1 ≤ a0) = false := decide_eq_false c2
  clear c2
  obtain rfl := Option.some.inj H
  go_enter Tryd.func159, Tryd.ntmps159
  go_wp2
  go_ret
  exact ⟨by first | rfl | (simp; done) | (simp [*]; done), by repeat (first | exact Drawn0.refl _ | apply Drawn0.step)⟩
mutual
def report_term.l0 : Nat → Int → Int → List (S108) → Int → Int → Option (Int)
 | 0, _, _, _, _, _ => none
 | k + 1, x3, x4, x12, x13, x14 => if x14 < x13 then (if 0 ≤ x14 then (if x14 < (x12.length : Int) then (if ((rd_T108 x12 x14).f0) ≤ x3 then (report_term.j1 k x4 x12 x13 x14 true ((rd_T108 x12 x14).f0) ((rd_T108 x12 x14).f1)) else (report_term.j1 k x4 x12 x13 x14 (decide (((rd_T108 x12 x14).f0) ≥ 64)) ((rd_T108 x12 x14).f0) ((rd_T108 x12 x14).f1))) else (none)) else (none)) else (some x4)
def report_term.j1 : Nat → Int → List (S108) → Int → Int → Bool → Int → Int → Option (Int)
 | 0, _, _, _, _, _, _, _ => none
 | k + 1, x4, x12, x13, x14, x26, x166000, x166001 => if x26 = true then (some 2) else ((report_units.f x166001).bind fun t166 => (if t166 = true then (report_term.l0 k x166000 x4 x12 x13 (wrap64 (x14 + 1))) else (report_term.l0 k x166000 1 x12 x13 (wrap64 (x14 + 1)))))
end
def report_term.f (k : Nat) (a0_0 : Int) (l0_1 : List (S108)) : Option (Int) := (report_units.f a0_0).bind fun t163 => (if t163 = true then (report_term.l0 k (-1) 0 l0_1 (l0_1.length : Int) 0) else (some 1))
set_option maxHeartbeats 8000000 in
set_option maxRecDepth 100000 in
theorem report_term.calls (k : Nat) (a0_0 : Int) (A0_1 : Option Addr) (c0_1 : Nat) (l0_1 : List (S108)) (r : Int) (w : World) (hr0_1 : Kd.C k108 w A0_1 l0_1.length l0_1) (hc0_1 : l0_1.length ≤ c0_1) (h : report_term.f k a0_0 l0_1 = some r) :
  Calls Tryd.prog 124 #[.agg #[.int .i64 a0_0, .slice A0_1 l0_1.length c0_1]] w fun e w' => e = .returned (.int .i64 r) ∧ Below w.heap.size w w' := by
 have hu96 := Tryd.underlying96
 have hu108 := Tryd.underlying108
 have HR0_1 := Aside0.mk hr0_1
 have HC0_1 := Aside0.mk hc0_1
 clear hr0_1 hc0_1
 have HB := Aside0.mk (Below.refl w.heap.size w)
 have H : ((report_units.f a0_0).bind fun t163 => (if t163 = true then (report_term.l0 k (-1) 0 l0_1 (l0_1.length : Int) 0) else (some 1))) = some r := h
 clear h
 replace H := Option.bind_eq_some_iff.mp H
 obtain ⟨t163, A20, H⟩ := H
 replace H : (if t163 = true then (report_term.l0 k (-1) 0 l0_1 (l0_1.length : Int) 0) else (some 1)) = some r := H
 have A2 := Aside0.mk A20
 clear A20
 by_cases c3 : t163 = true
 ·subst c3
  have H1 : (report_term.l0 k (-1) 0 l0_1 (l0_1.length : Int) 0) = some r := by rw [if_pos rfl] at H; exact H
  clear H
  have H := H1
  clear H1
  have H' := Aside0.mk H
  clear H
  go_enter Tryd.func124, Tryd.ntmps124
  go_wp2_with (first | ((with_reducible refine gate_dst (N := 1) rfl ?_); refine box_event ?hg (N := 1) ?hd (cs := #[.int .i64 a0_0, .slice A0_1 l0_1.length c0_1]) (t := 96) ?hr ?_; (case hd => rfl); (case hg => rfl); (case hr => first | (go_simp; done) | (go_simp; rfl)); intro gb162 hg w4 hbox hb; have n0_ := Aside0.mk (below_step (by repeat (first | (with_reducible first | exact HB.out | apply below_alloc | apply pw_below_drewN | apply below_drew1) | exact HB.out)) hb); have n1_ := Aside0.mk (hbox); have n2_ := Aside0.mk ((by rw [hg]; exact (below_size (by repeat (first | (with_reducible first | exact HB.out | apply below_alloc | apply pw_below_drewN | apply below_drew1) | exact HB.out))) : w.heap.size ≤ gb162)); have n3_ := Aside0.mk ((by rw [hg]; exact (below_size (by repeat (first | (with_reducible first | exact HB.out | apply below_alloc | apply pw_below_drewN | apply below_drew1) | exact HB.out))) : w.heap.size ≤ gb162)); clear HB; have HB := n0_; have BK162 := n1_; have GW162 := n2_; have GE162 := n3_; clear n0_ n1_ n2_ n3_; clear hb hbox hg; have hcz5_0 : w4.cell? ⟨gb162, 0, none⟩ = some (.int .i64 a0_0) := (blk_cell BK162.out 0).trans rfl; have hcz5_1 : w4.cell? ⟨gb162, 1, none⟩ = some (.slice A0_1 l0_1.length c0_1) := (blk_cell BK162.out 1).trans rfl; have hfz5_0 := blk_frozen BK162.out 0; have hfz5_1 := blk_frozen BK162.out 1) | ((with_reducible refine gate_callee (f := 159) rfl ?_); refine goesL_ (some 9) rfl rfl Tryd.func159 (by kernel_rfl) rfl #[.int .i64 a0_0] rfl (by (try simp only [List.map_toArray, List.map_cons, List.map_nil]); first | done | rfl | (simp only [List.length_drop, List.length_take]; rfl)) ?_; (with_reducible refine (report_units.calls a0_0 true _ A2.out).mono ?_); rintro e w' ⟨rfl, ⟨nd, rfl⟩⟩; refine ⟨_, rfl, ?_⟩))
  go_loopg [3, 4, 14] k (fun kq v3 v4 v14 w' => ∃ (x3_1 : Int) (x4_1 : Int) (x14_1 : Int), v3 = .int .i64 x3_1 ∧ v4 = .int .i64 x4_1 ∧ v14 = .int .i64 x14_1 ∧ Aside0 (report_term.l0 kq x3_1 x4_1 l0_1 (l0_1.length : Int) x14_1 = some r) ∧ Aside0 (kq ≤ k) ∧ Aside0 (w'.heap[gb162]? = some (.cells #[.int .i64 a0_0, (.slice A0_1 l0_1.length c0_1)] 96 (0, 0))) ∧ Aside0 (Below w.heap.size w w'))
  case atStart => exact ⟨((-1)), (0), (0), (by first | rfl | (simp; done) | (simp [*]; done)), (by first | rfl | (simp; done) | (simp [*]; done)), (by first | rfl | (simp; done) | (simp [*]; done)), H', ⟨Nat.le_refl _⟩, ⟨by (with_reducible repeat (first | refine blk_drewN ?_ _ | refine blk_drew ?_ | refine blk_alloc ?_ _)); exact BK162.out⟩, ⟨by repeat (first | (with_reducible first | exact HB.out | apply below_alloc | apply pw_below_drewN | apply below_drew1 | refine below_set ?_ GE162.out) | exact HB.out)⟩⟩
  case round =>
   clear H'
   try clear c1
   try clear p2
   try clear c3
   try clear hcz5_0
   try clear hcz5_1
   try clear hfz5_0
   try clear hfz5_1
   obtain ⟨x3_1, x4_1, x14_1, rfl, rfl, rfl, HA, HK1, BK162, HB⟩ := hrel
   cases gk with
   | zero => exact absurd HA.out (by simp [report_term.l0])
   | succ k1 =>
    have H := HA.out
    clear HA
    simp only [report_term.l0] at H
    by_cases c6 : x14_1 < (l0_1.length : Int)
    ·rw [if_pos c6] at H
     have c6b0 : decide (x14_1 < (l0_1.length : Int)) = true := decide_eq_true c6
     clear c6
     by_cases c7 : 0 ≤ x14_1
     ·rw [if_pos c7] at H
      have c7b0 : decide (0 ≤ x14_1) = true := decide_eq_true c7
      clear c7
      by_cases c8 : x14_1 < (l0_1.length : Int)
      ·rw [if_pos c8] at H
       have c8b0 : decide (x14_1 < (l0_1.length : Int)) = true := decide_eq_true c8
       clear c8
       have HC9 := Aside0.mk H
       clear H
       have p164 : 0 ≤ (x14_1 : Int) := of_decide_eq_true (by first | (with_reducible assumption) | assumption)
       have q164 : x14_1 < (l0_1.length : Int) := of_decide_eq_true (by first | (with_reducible assumption) | assumption)
       obtain ⟨ad164, e164, hx164_0, hx164_1⟩ := at_T108 HR0_1.out x14_1 p164 q164
       cases e164
       replace hx164_0 := (HB.out.cell (World.block_lt_of_cell? w _ hx164_0)).trans hx164_0
       replace hx164_1 := (HB.out.cell (World.block_lt_of_cell? w _ hx164_1)).trans hx164_1
       replace p164 := eq_true p164
       replace q164 := eq_true q164
       go_upto_region 7 with (first | ((with_reducible refine gate_dst (N := 6) rfl ?_); refine box_event ?hg (N := 6) ?hd (cs := #[.int .i64 0, .int .i64 0]) (t := 108) ?hr ?_; (case hd => rfl); (case hg => rfl); (case hr => first | (go_simp; done) | (go_simp; rfl)); intro gb165 hg w10 hbox hb; have n0_ := Aside0.mk (blk_below (g := gb162) (o := .cells #[.int .i64 a0_0, .slice (some ad164) l0_1.length c0_1] 96 (0, 0)) (by (with_reducible repeat (first | refine blk_drewN ?_ _ | refine blk_drew ?_ | refine blk_alloc ?_ _)); exact BK162.out) hb); have n1_ := Aside0.mk (below_step (by repeat (first | (with_reducible first | exact HB.out | apply below_alloc | apply pw_below_drewN | apply below_drew1 | refine below_set ?_ GE162.out) | exact HB.out)) hb); have n2_ := Aside0.mk (hbox); have n3_ := Aside0.mk ((by rw [hg]; exact (below_size (by repeat (first | (with_reducible first | exact HB.out | apply below_alloc | apply pw_below_drewN | apply below_drew1 | refine below_set ?_ GE162.out) | exact HB.out))) : w.heap.size ≤ gb165)); have n4_ := Aside0.mk ((by rw [hg]; exact (below_size (by repeat (first | (with_reducible first | exact HB.out | apply below_alloc | apply pw_below_drewN | apply below_drew1 | refine below_set ?_ GE162.out) | exact HB.out))) : w.heap.size ≤ gb165)); have n5_ := Aside0.mk ((by rw [hg]; exact Nat.ne_of_lt (blk_lt (g := gb162) (o := .cells #[.int .i64 a0_0, .slice (some ad164) l0_1.length c0_1] 96 (0, 0)) (by (with_reducible repeat (first | refine blk_drewN ?_ _ | refine blk_drew ?_ | refine blk_alloc ?_ _)); exact BK162.out)) : gb162 ≠ gb165)); have n6_ := Aside0.mk ((by rw [hg]; exact Nat.ne_of_gt (blk_lt (g := gb162) (o := .cells #[.int .i64 a0_0, .slice (some ad164) l0_1.length c0_1] 96 (0, 0)) (by (with_reducible repeat (first | refine blk_drewN ?_ _ | refine blk_drew ?_ | refine blk_alloc ?_ _)); exact BK162.out)) : gb165 ≠ gb162)); clear BK162; clear HB; have BK162 := n0_; have HB := n1_; have BK165 := n2_; have GW165 := n3_; have GE165 := n4_; have NB162_165 := n5_; have NB165_162 := n6_; clear n0_ n1_ n2_ n3_ n4_ n5_ n6_; clear hb hbox hg; have hnb11 := NB165_162.out; have hnc11 := NB162_165.out; have hcz12_0 : w10.cell? ⟨gb165, 0, none⟩ = some (.int .i64 0) := (blk_cell BK165.out 0).trans rfl; have hcz12_1 : w10.cell? ⟨gb165, 1, none⟩ = some (.int .i64 0) := (blk_cell BK165.out 1).trans rfl; have hfz12_0 := blk_frozen BK165.out 0; have hfz12_1 := blk_frozen BK165.out 1))
       (try simp only [Act.put, List.setIfInBounds_toArray, List.set_cons_zero, List.set_cons_succ])
       go_cut [26] (fun v26 wc => ∃ (kq : Nat) (x26_8 : Bool), v26 = .bool x26_8 ∧ Aside0 (report_term.j1 kq x4_1 l0_1 (l0_1.length : Int) x14_1 x26_8 ((rd_T108 l0_1 x14_1).f0) ((rd_T108 l0_1 x14_1).f1) = some r) ∧ Aside0 (kq ≤ k1) ∧ Aside0 (wc.heap[gb162]? = some (.cells #[.int .i64 a0_0, (.slice (some ad164) l0_1.length c0_1)] 96 (0, 0))) ∧ Aside0 (wc.heap[gb165]? = some (.cells #[.int .i64 ((rd_T108 l0_1 x14_1).f0), .int .i64 ((rd_T108 l0_1 x14_1).f1)] 108 (0, 0))) ∧ Aside0 (Below w.heap.size w wc))
       case first =>
        have H := HC9.out
        clear HC9
        by_cases c13 : ((rd_T108 l0_1 x14_1).f0) ≤ x3_1
        ·rw [if_pos c13] at H
         have c13b0 : decide (((rd_T108 l0_1 x14_1).f0) ≤ x3_1) = true := decide_eq_true c13
         clear c13
         (first | rw [c13b0] | (simp only [i64_w, i32_w]; rw [c13b0]) | skip)
         have H' := Aside0.mk H
         clear H
         have hnb14 := NB165_162.out
         have hnc14 := NB162_165.out
         have hcz15_0 : w10.cell? ⟨gb165, 0, none⟩ = some (.int .i64 0) := (blk_cell BK165.out 0).trans rfl
         have hcz15_1 : w10.cell? ⟨gb165, 1, none⟩ = some (.int .i64 0) := (blk_cell BK165.out 1).trans rfl
         have hfz15_0 := blk_frozen BK165.out 0
         have hfz15_1 := blk_frozen BK165.out 1
         go_wp2
         go_meet
         case rel => exact ⟨_, (true), (by first | rfl | (simp; done) | (simp [*]; done)), H', ⟨by have := HK1.out; first | omega | exact Nat.le_refl _⟩, ⟨by (with_reducible repeat (first | refine blk_drewN ?_ _ | refine blk_drew ?_ | refine blk_alloc ?_ _)); refine blk_far ?_ NB162_165.out _; (with_reducible repeat (first | refine blk_drewN ?_ _ | refine blk_drew ?_ | refine blk_alloc ?_ _)); refine blk_far ?_ NB162_165.out _; (with_reducible repeat (first | refine blk_drewN ?_ _ | refine blk_drew ?_ | refine blk_alloc ?_ _)); exact BK162.out⟩, ⟨by (with_reducible repeat (first | refine blk_drewN ?_ _ | refine blk_drew ?_ | refine blk_alloc ?_ _)); refine blk_put (cs := #[.int .i64 ((rd_T108 l0_1 x14_1).f0), .int .i64 0]) ?_ 1 _ rfl; (with_reducible repeat (first | refine blk_drewN ?_ _ | refine blk_drew ?_ | refine blk_alloc ?_ _)); refine blk_put (cs := #[.int .i64 0, .int .i64 0]) ?_ 0 _ rfl; (with_reducible repeat (first | refine blk_drewN ?_ _ | refine blk_drew ?_ | refine blk_alloc ?_ _)); exact BK165.out⟩, ⟨by repeat (first | (with_reducible first | exact HB.out | apply below_alloc | apply pw_below_drewN | apply below_drew1 | refine below_set ?_ GE162.out | refine below_set ?_ GE165.out) | exact HB.out)⟩⟩
        ·rw [if_neg c13] at H
         have c13b0 : decide (((rd_T108 l0_1 x14_1).f0) ≤ x3_1) = false := decide_eq_false c13
         clear c13
         (first | rw [c13b0] | (simp only [i64_w, i32_w]; rw [c13b0]) | skip)
         have H' := Aside0.mk H
         clear H
         have hnb16 := NB165_162.out
         have hnc16 := NB162_165.out
         have hcz17_0 : w10.cell? ⟨gb165, 0, none⟩ = some (.int .i64 0) := (blk_cell BK165.out 0).trans rfl
         have hcz17_1 : w10.cell? ⟨gb165, 1, none⟩ = some (.int .i64 0) := (blk_cell BK165.out 1).trans rfl
         have hfz17_0 := blk_frozen BK165.out 0
         have hfz17_1 := blk_frozen BK165.out 1
         go_wp2
         go_meet
         case rel => exact ⟨_, (decide (((rd_T108 l0_1 x14_1).f0) ≥ 64)), (by first | rfl | (simp; done) | (simp [*]; done)), H', ⟨by have := HK1.out; first | omega | exact Nat.le_refl _⟩, ⟨by (with_reducible repeat (first | refine blk_drewN ?_ _ | refine blk_drew ?_ | refine blk_alloc ?_ _)); refine blk_far ?_ NB162_165.out _; (with_reducible repeat (first | refine blk_drewN ?_ _ | refine blk_drew ?_ | refine blk_alloc ?_ _)); refine blk_far ?_ NB162_165.out _; (with_reducible repeat (first | refine blk_drewN ?_ _ | refine blk_drew ?_ | refine blk_alloc ?_ _)); exact BK162.out⟩, ⟨by (with_reducible repeat (first | refine blk_drewN ?_ _ | refine blk_drew ?_ | refine blk_alloc ?_ _)); refine blk_put (cs := #[.int .i64 ((rd_T108 l0_1 x14_1).f0), .int .i64 0]) ?_ 1 _ rfl; (with_reducible repeat (first | refine blk_drewN ?_ _ | refine blk_drew ?_ | refine blk_alloc ?_ _)); refine blk_put (cs := #[.int .i64 0, .int .i64 0]) ?_ 0 _ rfl; (with_reducible repeat (first | refine blk_drewN ?_ _ | refine blk_drew ?_ | refine blk_alloc ?_ _)); exact BK165.out⟩, ⟨by repeat (first | (with_reducible first | exact HB.out | apply below_alloc | apply pw_below_drewN | apply below_drew1 | refine below_set ?_ GE162.out | refine below_set ?_ GE165.out) | exact HB.out)⟩⟩
       case rest =>
        clear HC9
        try clear c1
        try clear p1
        try clear q1
        try clear hx1
        try clear p2
        try clear c3
        try clear c6
        try clear c6b0
        try clear c7
        try clear c7b0
        try clear c8
        try clear c8b0
        try clear c11
        try clear c12
        try clear c13
        try clear c13b0
        try clear c14
        try clear c15
        try clear c16
        try clear p16
        try clear q16
        try clear hx16
        try clear hcz12_0
        try clear hcz12_1
        try clear hcz15_0
        try clear hcz15_1
        try clear hcz17_0
        try clear hcz17_1
        try clear hcz5_0
        try clear hcz5_1
        try clear hfz12_0
        try clear hfz12_1
        try clear hfz15_0
        try clear hfz15_1
        try clear hfz17_0
        try clear hfz17_1
        try clear hfz5_0
        try clear hfz5_1
        try clear hx164_0
        try clear hx164_1
        try clear p164
        try clear p2
        try clear q164
        obtain ⟨kq, x26_8, rfl, HA, HJ8, BK162, BK165, HB⟩ := hcut
        cases kq with
        | zero => exact absurd HA.out (by simp [report_term.j1])
        | succ kj8 =>
         have H := HA.out
         clear HA
         simp only [report_term.j1] at H
         by_cases c18 : x26_8 = true
         ·subst c18
          have H1 : (some 2) = some r := by rw [if_pos rfl] at H; exact H
          clear H
          have H := H1
          clear H1
          obtain rfl := Option.some.inj H
          go_wp2
          go_ret
          exact ⟨by first | rfl | (simp [errW_none, errW_some] <;> rfl) | (simp [*, errW_none, errW_some] <;> rfl), by repeat (first | (with_reducible first | exact HB.out | apply below_alloc | apply pw_below_drewN | apply below_drew1 | refine below_set ?_ GE162.out | refine below_set ?_ GE165.out) | exact HB.out)⟩
         ·replace c18 := Bool.eq_false_iff.mpr c18
          subst c18
          have H1 : ((report_units.f ((rd_T108 l0_1 x14_1).f1)).bind fun t166 => (if t166 = true then (report_term.l0 kj8 ((rd_T108 l0_1 x14_1).f0) x4_1 l0_1 (l0_1.length : Int) (wrap64 (x14_1 + 1))) else (report_term.l0 kj8 ((rd_T108 l0_1 x14_1).f0) 1 l0_1 (l0_1.length : Int) (wrap64 (x14_1 + 1))))) = some r := by rw [if_neg (show ¬ (false = true) by decide)] at H; exact H
          clear H
          have H := H1
          clear H1
          replace H := Option.bind_eq_some_iff.mp H
          obtain ⟨t166, A190, H⟩ := H
          replace H : (if t166 = true then (report_term.l0 kj8 ((rd_T108 l0_1 x14_1).f0) x4_1 l0_1 (l0_1.length : Int) (wrap64 (x14_1 + 1))) else (report_term.l0 kj8 ((rd_T108 l0_1 x14_1).f0) 1 l0_1 (l0_1.length : Int) (wrap64 (x14_1 + 1)))) = some r := H
          have A19 := Aside0.mk A190
          clear A190
          by_cases c20 : t166 = true
          ·subst c20
           have H1 : (report_term.l0 kj8 ((rd_T108 l0_1 x14_1).f0) x4_1 l0_1 (l0_1.length : Int) (wrap64 (x14_1 + 1))) = some r := by rw [if_pos rfl] at H; exact H
           clear H
           have H := H1
           clear H1
           have H' := Aside0.mk H
           clear H
           have hnb21 := NB165_162.out
           have hnc21 := NB162_165.out
           have hcz22_0 : wc.cell? ⟨gb165, 0, none⟩ = some (.int .i64 ((rd_T108 l0_1 x14_1).f0)) := (blk_cell BK165.out 0).trans rfl
           have hcz22_1 : wc.cell? ⟨gb165, 1, none⟩ = some (.int .i64 ((rd_T108 l0_1 x14_1).f1)) := (blk_cell BK165.out 1).trans rfl
           have hfz22_0 := blk_frozen BK165.out 0
           have hfz22_1 := blk_frozen BK165.out 1
           go_wp2_with (first | ((with_reducible refine gate_callee (f := 159) rfl ?_); refine goesL_ (some 31) rfl rfl Tryd.func159 (by kernel_rfl) rfl #[.int .i64 ((rd_T108 l0_1 x14_1).f1)] rfl (by (try simp only [List.map_toArray, List.map_cons, List.map_nil]); first | done | rfl | (simp only [List.length_drop, List.length_take]; rfl)) ?_; (with_reducible refine (report_units.calls ((rd_T108 l0_1 x14_1).f1) true _ A19.out).mono ?_); rintro e w' ⟨rfl, ⟨nd, rfl⟩⟩; refine ⟨_, rfl, ?_⟩))
           go_roundg kj8
           case measure => have := HK1.out; have := HJ8.out; omega
           case rel => exact ⟨(((rd_T108 l0_1 x14_1).f0)), (x4_1), (wrap64 (x14_1 + 1)), (by first | rfl | (simp; done) | (simp [*]; done)), (by first | rfl | (simp; done) | (simp [*]; done)), (by first | rfl | (simp; done) | (simp [*]; done)), H', ⟨by have := HK1.out; have := HJ8.out; omega⟩, ⟨by (with_reducible repeat (first | refine blk_drewN ?_ _ | refine blk_drew ?_ | refine blk_alloc ?_ _)); exact BK162.out⟩, ⟨by repeat (first | (with_reducible first | exact HB.out | apply below_alloc | apply pw_below_drewN | apply below_drew1 | refine below_set ?_ GE162.out | refine below_set ?_ GE165.out) | exact HB.out)⟩⟩
          ·replace c20 := Bool.eq_false_iff.mpr c20
           subst c20
           have H1 : (report_term.l0 kj8 ((rd_T108 l0_1 x14_1).f0) 1 l0_1 (l0_1.length : Int) (wrap64 (x14_1 + 1))) = some r := by rw [if_neg (show ¬ (false = true) by decide)] at H; exact H
           clear H
           have H := H1
           clear H1
           have H' := Aside0.mk H
           clear H
           have hnb23 := NB165_162.out
           have hnc23 := NB162_165.out
           have hcz24_0 : wc.cell? ⟨gb165, 0, none⟩ = some (.int .i64 ((rd_T108 l0_1 x14_1).f0)) := (blk_cell BK165.out 0).trans rfl
           have hcz24_1 : wc.cell? ⟨gb165, 1, none⟩ = some (.int .i64 ((rd_T108 l0_1 x14_1).f1)) := (blk_cell BK165.out 1).trans rfl
           have hfz24_0 := blk_frozen BK165.out 0
           have hfz24_1 := blk_frozen BK165.out 1
           go_wp2_with (first | ((with_reducible refine gate_callee (f := 159) rfl ?_); refine goesL_ (some 31) rfl rfl Tryd.func159 (by kernel_rfl) rfl #[.int .i64 ((rd_T108 l0_1 x14_1).f1)] rfl (by (try simp only [List.map_toArray, List.map_cons, List.map_nil]); first | done | rfl | (simp only [List.length_drop, List.length_take]; rfl)) ?_; (with_reducible refine (report_units.calls ((rd_T108 l0_1 x14_1).f1) false _ A19.out).mono ?_); rintro e w' ⟨rfl, ⟨nd, rfl⟩⟩; refine ⟨_, rfl, ?_⟩))
           go_roundg kj8
           case measure => have := HK1.out; have := HJ8.out; omega
           case rel => exact ⟨(((rd_T108 l0_1 x14_1).f0)), (1), (wrap64 (x14_1 + 1)), (by first | rfl | (simp; done) | (simp [*]; done)), (by first | rfl | (simp; done) | (simp [*]; done)), (by first | rfl | (simp; done) | (simp [*]; done)), H', ⟨by have := HK1.out; have := HJ8.out; omega⟩, ⟨by (with_reducible repeat (first | refine blk_drewN ?_ _ | refine blk_drew ?_ | refine blk_alloc ?_ _)); exact BK162.out⟩, ⟨by repeat (first | (with_reducible first | exact HB.out | apply below_alloc | apply pw_below_drewN | apply below_drew1 | refine below_set ?_ GE162.out | refine below_set ?_ GE165.out) | exact HB.out)⟩⟩
      ·rw [if_neg c8] at H
       exact absurd H (by simp)
     ·rw [if_neg c7] at H
      exact absurd H (by simp)
    ·rw [if_neg c6] at H
     have c6b0 : decide (x14_1 < (l0_1.length : Int)) = false := decide_eq_false c6
     clear c6
     obtain rfl := Option.some.inj H
     go_wp2
     go_ret
     exact ⟨by first | rfl | (simp [errW_none, errW_some] <;> rfl) | (simp [*, errW_none, errW_some] <;> rfl), by repeat (first | (with_reducible first | exact HB.out | apply below_alloc | apply pw_below_drewN | apply below_drew1 | refine below_set ?_ GE162.out) | exact HB.out)⟩
 ·replace c3 := Bool.eq_false_iff.mpr c3
  subst c3
  have H1 : (some 1) = some r := by rw [if_neg (show ¬ (false = true) by decide)] at H; exact H
  clear H
  have H := H1
  clear H1
  obtain rfl := Option.some.inj H
  go_enter Tryd.func124, Tryd.ntmps124
  go_wp2_with (first | ((with_reducible refine gate_dst (N := 1) rfl ?_); refine box_event ?hg (N := 1) ?hd (cs := #[.int .i64 a0_0, .slice A0_1 l0_1.length c0_1]) (t := 96) ?hr ?_; (case hd => rfl); (case hg => rfl); (case hr => first | (go_simp; done) | (go_simp; rfl)); intro gb162 hg w25 hbox hb; have n0_ := Aside0.mk (below_step (by repeat (first | (with_reducible first | exact HB.out | apply below_alloc | apply pw_below_drewN | apply below_drew1) | exact HB.out)) hb); have n1_ := Aside0.mk (hbox); have n2_ := Aside0.mk ((by rw [hg]; exact (below_size (by repeat (first | (with_reducible first | exact HB.out | apply below_alloc | apply pw_below_drewN | apply below_drew1) | exact HB.out))) : w.heap.size ≤ gb162)); have n3_ := Aside0.mk ((by rw [hg]; exact (below_size (by repeat (first | (with_reducible first | exact HB.out | apply below_alloc | apply pw_below_drewN | apply below_drew1) | exact HB.out))) : w.heap.size ≤ gb162)); clear HB; have HB := n0_; have BK162 := n1_; have GW162 := n2_; have GE162 := n3_; clear n0_ n1_ n2_ n3_; clear hb hbox hg; have hcz26_0 : w25.cell? ⟨gb162, 0, none⟩ = some (.int .i64 a0_0) := (blk_cell BK162.out 0).trans rfl; have hcz26_1 : w25.cell? ⟨gb162, 1, none⟩ = some (.slice A0_1 l0_1.length c0_1) := (blk_cell BK162.out 1).trans rfl; have hfz26_0 := blk_frozen BK162.out 0; have hfz26_1 := blk_frozen BK162.out 1) | ((with_reducible refine gate_callee (f := 159) rfl ?_); refine goesL_ (some 9) rfl rfl Tryd.func159 (by kernel_rfl) rfl #[.int .i64 a0_0] rfl (by (try simp only [List.map_toArray, List.map_cons, List.map_nil]); first | done | rfl | (simp only [List.length_drop, List.length_take]; rfl)) ?_; (with_reducible refine (report_units.calls a0_0 false _ A2.out).mono ?_); rintro e w' ⟨rfl, ⟨nd, rfl⟩⟩; refine ⟨_, rfl, ?_⟩))
  go_ret
  exact ⟨by first | rfl | (simp [errW_none, errW_some] <;> rfl) | (simp [*, errW_none, errW_some] <;> rfl), by repeat (first | (with_reducible first | exact HB.out | apply below_alloc | apply pw_below_drewN | apply below_drew1 | refine below_set ?_ GE162.out) | exact HB.out)⟩
mutual
def report_node.l0 : Nat → List (List (S96)) → Int → Int → Option (Int)
 | 0, _, _, _ => none
 | k + 1, x16, x17, x18 => if x18 < x17 then (if 0 ≤ x18 then (if x18 < (x16.length : Int) then (if ((rd_L5 x16 x18).length : Int) > 256 then (some 4) else (report_node.l1 k x16 x17 x18 (rd_L5 x16 x18) ((rd_L5 x16 x18).length : Int) 0)) else (none)) else (none)) else (some 0)
def report_node.l1 : Nat → List (List (S96)) → Int → Int → List (S96) → Int → Int → Option (Int)
 | 0, _, _, _, _, _, _ => none
 | k + 1, x16, x17, x18, x25, x26, x27 => if x27 < x26 then (if 0 ≤ x27 then (if x27 < (x25.length : Int) then ((report_term.f k ((rd_T96 x25 x27).f0) ((rd_T96 x25 x27).f1)).bind fun t171 => (if t171 = 0 then (report_node.l1 k x16 x17 x18 x25 x26 (wrap64 (x27 + 1))) else (some t171))) else (none)) else (none)) else (report_node.l0 k x16 x17 (wrap64 (x18 + 1)))
end
def report_node.f (k : Nat) (a0_0 : Bool) (l0_1 : List (List (S96))) : Option (Int) := if a0_0 = true then (if (l0_1.length : Int) > 4 then (some 4) else (report_node.l0 k l0_1 (l0_1.length : Int) 0)) else (some 2)
set_option maxHeartbeats 8000000 in
set_option maxRecDepth 100000 in
theorem report_node.calls (k : Nat) (a0_0 : Bool) (A0_1 : Option Addr) (c0_1 : Nat) (l0_1 : List (List (S96))) (r : Int) (w : World) (hr0_1 : Kd.C (Kd.slice 96 k96) w A0_1 l0_1.length l0_1) (hc0_1 : l0_1.length ≤ c0_1) (h : report_node.f k a0_0 l0_1 = some r) :
  Calls Tryd.prog 85 #[.agg #[.bool a0_0, .slice A0_1 l0_1.length c0_1]] w fun e w' => e = .returned (.int .i64 r) ∧ Below w.heap.size w w' := by
 have hu92 := Tryd.underlying92
 have hu96 := Tryd.underlying96
 have HR0_1 := Aside0.mk hr0_1
 have HC0_1 := Aside0.mk hc0_1
 clear hr0_1 hc0_1
 have HB := Aside0.mk (Below.refl w.heap.size w)
 have H : (if a0_0 = true then (if (l0_1.length : Int) > 4 then (some 4) else (report_node.l0 k l0_1 (l0_1.length : Int) 0)) else (some 2)) = some r := h
 clear h
 by_cases c2 : a0_0 = true
 ·subst c2
  have H1 : (if (l0_1.length : Int) > 4 then (some 4) else (report_node.l0 k l0_1 (l0_1.length : Int) 0)) = some r := by rw [if_pos rfl] at H; exact H
  clear H
  have H := H1
  clear H1
  by_cases c3 : (l0_1.length : Int) > 4
  ·rw [if_pos c3] at H
   have c3b0 : decide (4 < (l0_1.length : Int)) = true := decide_eq_true c3
   have c3b1 : decide (4 < l0_1.length) = true := decide_eq_true (by omega)
   clear c3
   obtain rfl := Option.some.inj H
   go_enter Tryd.func85, Tryd.ntmps85
   go_wp2_with (first | ((with_reducible refine gate_dst (N := 1) rfl ?_); refine box_event ?hg (N := 1) ?hd (cs := #[.bool true, .slice A0_1 l0_1.length c0_1]) (t := 92) ?hr ?_; (case hd => rfl); (case hg => rfl); (case hr => first | (go_simp; done) | (go_simp; rfl)); intro gb167 hg w4 hbox hb; have n0_ := Aside0.mk (below_step (by repeat (first | (with_reducible first | exact HB.out | apply below_alloc | apply pw_below_drewN | apply below_drew1) | exact HB.out)) hb); have n1_ := Aside0.mk (hbox); have n2_ := Aside0.mk ((by rw [hg]; exact (below_size (by repeat (first | (with_reducible first | exact HB.out | apply below_alloc | apply pw_below_drewN | apply below_drew1) | exact HB.out))) : w.heap.size ≤ gb167)); have n3_ := Aside0.mk ((by rw [hg]; exact (below_size (by repeat (first | (with_reducible first | exact HB.out | apply below_alloc | apply pw_below_drewN | apply below_drew1) | exact HB.out))) : w.heap.size ≤ gb167)); clear HB; have HB := n0_; have BK167 := n1_; have GW167 := n2_; have GE167 := n3_; clear n0_ n1_ n2_ n3_; clear hb hbox hg; have hcz5_0 : w4.cell? ⟨gb167, 0, none⟩ = some (.bool true) := (blk_cell BK167.out 0).trans rfl; have hcz5_1 : w4.cell? ⟨gb167, 1, none⟩ = some (.slice A0_1 l0_1.length c0_1) := (blk_cell BK167.out 1).trans rfl; have hfz5_0 := blk_frozen BK167.out 0; have hfz5_1 := blk_frozen BK167.out 1))
   go_ret
   exact ⟨by first | rfl | (simp [errW_none, errW_some] <;> rfl) | (simp [*, errW_none, errW_some] <;> rfl), by repeat (first | (with_reducible first | exact HB.out | apply below_alloc | apply pw_below_drewN | apply below_drew1 | refine below_set ?_ GE167.out) | exact HB.out)⟩
  ·rw [if_neg c3] at H
   have c3b0 : decide (4 < (l0_1.length : Int)) = false := decide_eq_false c3
   have c3b1 : decide (4 < l0_1.length) = false := decide_eq_false (by omega)
   clear c3
   have H' := Aside0.mk H
   clear H
   go_enter Tryd.func85, Tryd.ntmps85
   go_wp2_with (first | ((with_reducible refine gate_dst (N := 1) rfl ?_); refine box_event ?hg (N := 1) ?hd (cs := #[.bool true, .slice A0_1 l0_1.length c0_1]) (t := 92) ?hr ?_; (case hd => rfl); (case hg => rfl); (case hr => first | (go_simp; done) | (go_simp; rfl)); intro gb167 hg w6 hbox hb; have n0_ := Aside0.mk (below_step (by repeat (first | (with_reducible first | exact HB.out | apply below_alloc | apply pw_below_drewN | apply below_drew1) | exact HB.out)) hb); have n1_ := Aside0.mk (hbox); have n2_ := Aside0.mk ((by rw [hg]; exact (below_size (by repeat (first | (with_reducible first | exact HB.out | apply below_alloc | apply pw_below_drewN | apply below_drew1) | exact HB.out))) : w.heap.size ≤ gb167)); have n3_ := Aside0.mk ((by rw [hg]; exact (below_size (by repeat (first | (with_reducible first | exact HB.out | apply below_alloc | apply pw_below_drewN | apply below_drew1) | exact HB.out))) : w.heap.size ≤ gb167)); clear HB; have HB := n0_; have BK167 := n1_; have GW167 := n2_; have GE167 := n3_; clear n0_ n1_ n2_ n3_; clear hb hbox hg; have hcz7_0 : w6.cell? ⟨gb167, 0, none⟩ = some (.bool true) := (blk_cell BK167.out 0).trans rfl; have hcz7_1 : w6.cell? ⟨gb167, 1, none⟩ = some (.slice A0_1 l0_1.length c0_1) := (blk_cell BK167.out 1).trans rfl; have hfz7_0 := blk_frozen BK167.out 0; have hfz7_1 := blk_frozen BK167.out 1))
   go_loopg [18] k (fun kq v18 w' => ∃ (x18_1 : Int), v18 = .int .i64 x18_1 ∧ Aside0 (report_node.l0 kq l0_1 (l0_1.length : Int) x18_1 = some r) ∧ Aside0 (kq ≤ k) ∧ Aside0 (w'.heap[gb167]? = some (.cells #[.bool true, (.slice A0_1 l0_1.length c0_1)] 92 (0, 0))) ∧ Aside0 (Below w.heap.size w w'))
   case atStart => exact ⟨(0), (by first | rfl | (simp; done) | (simp [*]; done)), H', ⟨Nat.le_refl _⟩, ⟨by (with_reducible repeat (first | refine blk_drewN ?_ _ | refine blk_drew ?_ | refine blk_alloc ?_ _)); exact BK167.out⟩, ⟨by repeat (first | (with_reducible first | exact HB.out | apply below_alloc | apply pw_below_drewN | apply below_drew1 | refine below_set ?_ GE167.out) | exact HB.out)⟩⟩
   case round =>
    clear H'
    try clear c2
    try clear p2
    try clear c3
    try clear c3b0
    try clear c3b1
    try clear hcz5_0
    try clear hcz5_1
    try clear hcz7_0
    try clear hcz7_1
    try clear hfz5_0
    try clear hfz5_1
    try clear hfz7_0
    try clear hfz7_1
    obtain ⟨x18_1, rfl, HA, HK1, BK167, HB⟩ := hrel
    cases gk with
    | zero => exact absurd HA.out (by simp [report_node.l0])
    | succ k1 =>
     have H := HA.out
     clear HA
     simp only [report_node.l0] at H
     by_cases c8 : x18_1 < (l0_1.length : Int)
     ·rw [if_pos c8] at H
      have c8b0 : decide (x18_1 < (l0_1.length : Int)) = true := decide_eq_true c8
      clear c8
      by_cases c9 : 0 ≤ x18_1
      ·rw [if_pos c9] at H
       have c9b0 : decide (0 ≤ x18_1) = true := decide_eq_true c9
       clear c9
       by_cases c10 : x18_1 < (l0_1.length : Int)
       ·rw [if_pos c10] at H
        have c10b0 : decide (x18_1 < (l0_1.length : Int)) = true := decide_eq_true c10
        clear c10
        by_cases c11 : ((rd_L5 l0_1 x18_1).length : Int) > 256
        ·rw [if_pos c11] at H
         have c11b0 : decide (256 < ((rd_L5 l0_1 x18_1).length : Int)) = true := decide_eq_true c11
         have c11b1 : decide (256 < (rd_L5 l0_1 x18_1).length) = true := decide_eq_true (by omega)
         clear c11
         obtain rfl := Option.some.inj H
         have p168 : 0 ≤ (x18_1 : Int) := of_decide_eq_true (by first | (with_reducible assumption) | assumption)
         have q168 : x18_1 < (l0_1.length : Int) := of_decide_eq_true (by first | (with_reducible assumption) | assumption)
         obtain ⟨ad168, A168_0, c168_0, e168, hx168_0, hl168_0, hi168_0⟩ := at_L5 HR0_1.out x18_1 p168 q168
         cases e168
         replace hx168_0 := (HB.out.cell (World.block_lt_of_cell? w _ hx168_0)).trans hx168_0
         have HR168_0 := Aside0.mk hi168_0
         have HC168_0 := Aside0.mk hl168_0
         clear hi168_0 hl168_0
         replace p168 := eq_true p168
         replace q168 := eq_true q168
         go_wp2
         go_ret
         exact ⟨by first | rfl | (simp [errW_none, errW_some] <;> rfl) | (simp [*, errW_none, errW_some] <;> rfl), by repeat (first | (with_reducible first | exact HB.out | apply below_alloc | apply pw_below_drewN | apply below_drew1 | refine below_set ?_ GE167.out) | exact HB.out)⟩
        ·rw [if_neg c11] at H
         have c11b0 : decide (256 < ((rd_L5 l0_1 x18_1).length : Int)) = false := decide_eq_false c11
         have c11b1 : decide (256 < (rd_L5 l0_1 x18_1).length) = false := decide_eq_false (by omega)
         clear c11
         have H' := Aside0.mk H
         clear H
         have p168 : 0 ≤ (x18_1 : Int) := of_decide_eq_true (by first | (with_reducible assumption) | assumption)
         have q168 : x18_1 < (l0_1.length : Int) := of_decide_eq_true (by first | (with_reducible assumption) | assumption)
         obtain ⟨ad168, A168_0, c168_0, e168, hx168_0, hl168_0, hi168_0⟩ := at_L5 HR0_1.out x18_1 p168 q168
         cases e168
         replace hx168_0 := (HB.out.cell (World.block_lt_of_cell? w _ hx168_0)).trans hx168_0
         have HR168_0 := Aside0.mk hi168_0
         have HC168_0 := Aside0.mk hl168_0
         clear hi168_0 hl168_0
         replace p168 := eq_true p168
         replace q168 := eq_true q168
         go_wp2
         go_loopg [27] k1 (fun kq v27 w' => ∃ (x27_2 : Int), v27 = .int .i64 x27_2 ∧ Aside0 (report_node.l1 kq l0_1 (l0_1.length : Int) x18_1 (rd_L5 l0_1 x18_1) ((rd_L5 l0_1 x18_1).length : Int) x27_2 = some r) ∧ Aside0 (kq ≤ k1) ∧ Aside0 (w'.heap[gb167]? = some (.cells #[.bool true, (.slice (some ad168) l0_1.length c0_1)] 92 (0, 0))) ∧ Aside0 (Below w.heap.size w w'))
         case atStart => exact ⟨(0), (by first | rfl | (simp; done) | (simp [*]; done)), H', ⟨Nat.le_refl _⟩, ⟨by (with_reducible repeat (first | refine blk_drewN ?_ _ | refine blk_drew ?_ | refine blk_alloc ?_ _)); exact BK167.out⟩, ⟨by repeat (first | (with_reducible first | exact HB.out | apply below_alloc | apply pw_below_drewN | apply below_drew1 | refine below_set ?_ GE167.out) | exact HB.out)⟩⟩
         case round =>
          clear H'
          try clear c1
          try clear p1
          try clear q1
          try clear hx1
          try clear c2
          try clear p2
          try clear c3
          try clear c3b0
          try clear c3b1
          try clear c8
          try clear c8b0
          try clear c9
          try clear c9b0
          try clear c10
          try clear c10b0
          try clear c11
          try clear c11b0
          try clear c11b1
          try clear hcz5_0
          try clear hcz5_1
          try clear hcz7_0
          try clear hcz7_1
          try clear hfz5_0
          try clear hfz5_1
          try clear hfz7_0
          try clear hfz7_1
          try clear hx168_0
          try clear p168
          try clear p2
          try clear q168
          obtain ⟨x27_2, rfl, HA, HK2, BK167, HB⟩ := hrel
          cases gk with
          | zero => exact absurd HA.out (by simp [report_node.l1])
          | succ k2 =>
           have H := HA.out
           clear HA
           simp only [report_node.l1] at H
           by_cases c12 : x27_2 < ((rd_L5 l0_1 x18_1).length : Int)
           ·rw [if_pos c12] at H
            have c12b0 : decide (x27_2 < ((rd_L5 l0_1 x18_1).length : Int)) = true := decide_eq_true c12
            clear c12
            by_cases c13 : 0 ≤ x27_2
            ·rw [if_pos c13] at H
             have c13b0 : decide (0 ≤ x27_2) = true := decide_eq_true c13
             clear c13
             by_cases c14 : x27_2 < ((rd_L5 l0_1 x18_1).length : Int)
             ·rw [if_pos c14] at H
              have c14b0 : decide (x27_2 < ((rd_L5 l0_1 x18_1).length : Int)) = true := decide_eq_true c14
              clear c14
              replace H := Option.bind_eq_some_iff.mp H
              obtain ⟨t171, A150, H⟩ := H
              replace H : (if t171 = 0 then (report_node.l1 k2 l0_1 (l0_1.length : Int) x18_1 (rd_L5 l0_1 x18_1) ((rd_L5 l0_1 x18_1).length : Int) (wrap64 (x27_2 + 1))) else (some t171)) = some r := H
              have A15 := Aside0.mk A150
              clear A150
              by_cases c16 : t171 = 0
              ·rw [if_pos c16] at H
               have c16b0 : (t171 == 0) = true := beq_iff_eq.mpr c16
               have c16b1 : (t171 != 0) = false := bne_eq_false_iff_eq.mpr c16
               clear c16
               have H' := Aside0.mk H
               clear H
               have p169 : 0 ≤ (x27_2 : Int) := of_decide_eq_true (by first | (with_reducible assumption) | assumption)
               have q169 : x27_2 < ((rd_L5 l0_1 x18_1).length : Int) := of_decide_eq_true (by first | (with_reducible assumption) | assumption)
               obtain ⟨ad169, A169_1, c169_1, e169, hx169_0, hx169_1, hl169_1, hi169_1⟩ := at_T96 HR168_0.out x27_2 p169 q169
               cases e169
               replace hx169_0 := (HB.out.cell (World.block_lt_of_cell? w _ hx169_0)).trans hx169_0
               replace hx169_1 := (HB.out.cell (World.block_lt_of_cell? w _ hx169_1)).trans hx169_1
               have HR169_1 := Aside0.mk hi169_1
               have HC169_1 := Aside0.mk hl169_1
               clear hi169_1 hl169_1
               replace p169 := eq_true p169
               replace q169 := eq_true q169
               go_wp2_with (first | ((with_reducible refine gate_dst (N := 6) rfl ?_); refine box_event ?hg (N := 6) ?hd (cs := #[.int .i64 0, .slice none 0 0]) (t := 96) ?hr ?_; (case hd => rfl); (case hg => rfl); (case hr => first | (go_simp; done) | (go_simp; rfl)); intro gb170 hg w17 hbox hb; have n0_ := Aside0.mk (blk_below (g := gb167) (o := .cells #[.bool true, .slice (some ad168) l0_1.length c0_1] 92 (0, 0)) (by (with_reducible repeat (first | refine blk_drewN ?_ _ | refine blk_drew ?_ | refine blk_alloc ?_ _)); exact BK167.out) hb); have n1_ := Aside0.mk (below_step (by repeat (first | (with_reducible first | exact HB.out | apply below_alloc | apply pw_below_drewN | apply below_drew1 | refine below_set ?_ GE167.out) | exact HB.out)) hb); have n2_ := Aside0.mk (hbox); have n3_ := Aside0.mk ((by rw [hg]; exact (below_size (by repeat (first | (with_reducible first | exact HB.out | apply below_alloc | apply pw_below_drewN | apply below_drew1 | refine below_set ?_ GE167.out) | exact HB.out))) : w.heap.size ≤ gb170)); have n4_ := Aside0.mk ((by rw [hg]; exact (below_size (by repeat (first | (with_reducible first | exact HB.out | apply below_alloc | apply pw_below_drewN | apply below_drew1 | refine below_set ?_ GE167.out) | exact HB.out))) : w.heap.size ≤ gb170)); have n5_ := Aside0.mk ((by rw [hg]; exact Nat.ne_of_lt (blk_lt (g := gb167) (o := .cells #[.bool true, .slice (some ad168) l0_1.length c0_1] 92 (0, 0)) (by (with_reducible repeat (first | refine blk_drewN ?_ _ | refine blk_drew ?_ | refine blk_alloc ?_ _)); exact BK167.out)) : gb167 ≠ gb170)); have n6_ := Aside0.mk ((by rw [hg]; exact Nat.ne_of_gt (blk_lt (g := gb167) (o := .cells #[.bool true, .slice (some ad168) l0_1.length c0_1] 92 (0, 0)) (by (with_reducible repeat (first | refine blk_drewN ?_ _ | refine blk_drew ?_ | refine blk_alloc ?_ _)); exact BK167.out)) : gb170 ≠ gb167)); clear BK167; clear HB; have BK167 := n0_; have HB := n1_; have BK170 := n2_; have GW170 := n3_; have GE170 := n4_; have NB167_170 := n5_; have NB170_167 := n6_; clear n0_ n1_ n2_ n3_ n4_ n5_ n6_; clear hb hbox hg; have hnb18 := NB170_167.out; have hnc18 := NB167_170.out; have hcz19_0 : w17.cell? ⟨gb170, 0, none⟩ = some (.int .i64 0) := (blk_cell BK170.out 0).trans rfl; have hcz19_1 : w17.cell? ⟨gb170, 1, none⟩ = some (.slice none 0 0) := (blk_cell BK170.out 1).trans rfl; have hfz19_0 := blk_frozen BK170.out 0; have hfz19_1 := blk_frozen BK170.out 1) | ((with_reducible refine gate_callee (f := 124) rfl ?_); refine goesL_ (some 32) rfl rfl Tryd.func124 (by kernel_rfl) rfl #[.agg #[.int .i64 ((rd_T96 (rd_L5 l0_1 x18_1) x27_2).f0), .slice A169_1 ((rd_T96 (rd_L5 l0_1 x18_1) x27_2).f1).length c169_1]] rfl (by (try simp only [List.map_toArray, List.map_cons, List.map_nil]); first | done | rfl | (simp only [List.length_drop, List.length_take]; rfl)) ?_; (with_reducible refine (report_term.calls k2 ((rd_T96 (rd_L5 l0_1 x18_1) x27_2).f0) _ _ ((rd_T96 (rd_L5 l0_1 x18_1) x27_2).f1) t171 _ ?side1 ?side2 A15.out).mono ?_); (case side1 => exact Kd.C_below HR169_1.out (by repeat (first | (with_reducible first | exact HB.out | apply below_alloc | apply pw_below_drewN | apply below_drew1 | refine below_set ?_ GE167.out | refine below_set ?_ GE170.out) | exact HB.out))); (case side2 => exact HC169_1.out); rintro e w20 ⟨rfl, hb⟩; refine ⟨_, rfl, ?_⟩; have n0_ := Aside0.mk (blk_below (g := gb167) (o := .cells #[.bool true, .slice (some ad168) l0_1.length c0_1] 92 (0, 0)) (by (with_reducible repeat (first | refine blk_drewN ?_ _ | refine blk_drew ?_ | refine blk_alloc ?_ _)); refine blk_far ?_ NB167_170.out _; (with_reducible repeat (first | refine blk_drewN ?_ _ | refine blk_drew ?_ | refine blk_alloc ?_ _)); refine blk_far ?_ NB167_170.out _; (with_reducible repeat (first | refine blk_drewN ?_ _ | refine blk_drew ?_ | refine blk_alloc ?_ _)); exact BK167.out) hb); have n1_ := Aside0.mk (blk_below (g := gb170) (o := .cells #[.int .i64 ((rd_T96 (rd_L5 l0_1 x18_1) x27_2).f0), .slice A169_1 ((rd_T96 (rd_L5 l0_1 x18_1) x27_2).f1).length c169_1] 96 (0, 0)) (by (with_reducible repeat (first | refine blk_drewN ?_ _ | refine blk_drew ?_ | refine blk_alloc ?_ _)); refine blk_put (cs := #[.int .i64 ((rd_T96 (rd_L5 l0_1 x18_1) x27_2).f0), .slice none 0 0]) ?_ 1 _ rfl; (with_reducible repeat (first | refine blk_drewN ?_ _ | refine blk_drew ?_ | refine blk_alloc ?_ _)); refine blk_put (cs := #[.int .i64 0, .slice none 0 0]) ?_ 0 _ rfl; (with_reducible repeat (first | refine blk_drewN ?_ _ | refine blk_drew ?_ | refine blk_alloc ?_ _)); exact BK170.out) hb); have n2_ := Aside0.mk (below_step (by repeat (first | (with_reducible first | exact HB.out | apply below_alloc | apply pw_below_drewN | apply below_drew1 | refine below_set ?_ GE167.out | refine below_set ?_ GE170.out) | exact HB.out)) hb); clear BK167; clear BK170; clear HB; have BK167 := n0_; have BK170 := n1_; have HB := n2_; clear n0_ n1_ n2_; (try clear hb); (try clear hb2); (try clear hk); (try clear hi)))
               go_roundg k2
               case measure => have := HK1.out; have := HK2.out; omega
               case rel => exact ⟨(wrap64 (x27_2 + 1)), (by first | rfl | (simp; done) | (simp [*]; done)), H', ⟨by have := HK1.out; have := HK2.out; omega⟩, ⟨by (with_reducible repeat (first | refine blk_drewN ?_ _ | refine blk_drew ?_ | refine blk_alloc ?_ _)); exact BK167.out⟩, ⟨by repeat (first | (with_reducible first | exact HB.out | apply below_alloc | apply pw_below_drewN | apply below_drew1 | refine below_set ?_ GE167.out | refine below_set ?_ GE170.out) | exact HB.out)⟩⟩
              ·rw [if_neg c16] at H
               have c16b0 : (t171 == 0) = false := beq_eq_false_iff_ne.mpr c16
               have c16b1 : (t171 != 0) = true := bne_iff_ne.mpr c16
               obtain rfl := Option.some.inj H
               have p169 : 0 ≤ (x27_2 : Int) := of_decide_eq_true (by first | (with_reducible assumption) | assumption)
               have q169 : x27_2 < ((rd_L5 l0_1 x18_1).length : Int) := of_decide_eq_true (by first | (with_reducible assumption) | assumption)
               obtain ⟨ad169, A169_1, c169_1, e169, hx169_0, hx169_1, hl169_1, hi169_1⟩ := at_T96 HR168_0.out x27_2 p169 q169
               cases e169
               replace hx169_0 := (HB.out.cell (World.block_lt_of_cell? w _ hx169_0)).trans hx169_0
               replace hx169_1 := (HB.out.cell (World.block_lt_of_cell? w _ hx169_1)).trans hx169_1
               have HR169_1 := Aside0.mk hi169_1
               have HC169_1 := Aside0.mk hl169_1
               clear hi169_1 hl169_1
               replace p169 := eq_true p169
               replace q169 := eq_true q169
               go_wp2_with (first | ((with_reducible refine gate_dst (N := 6) rfl ?_); refine box_event ?hg (N := 6) ?hd (cs := #[.int .i64 0, .slice none 0 0]) (t := 96) ?hr ?_; (case hd => rfl); (case hg => rfl); (case hr => first | (go_simp; done) | (go_simp; rfl)); intro gb170 hg w21 hbox hb; have n0_ := Aside0.mk (blk_below (g := gb167) (o := .cells #[.bool true, .slice (some ad168) l0_1.length c0_1] 92 (0, 0)) (by (with_reducible repeat (first | refine blk_drewN ?_ _ | refine blk_drew ?_ | refine blk_alloc ?_ _)); exact BK167.out) hb); have n1_ := Aside0.mk (below_step (by repeat (first | (with_reducible first | exact HB.out | apply below_alloc | apply pw_below_drewN | apply below_drew1 | refine below_set ?_ GE167.out) | exact HB.out)) hb); have n2_ := Aside0.mk (hbox); have n3_ := Aside0.mk ((by rw [hg]; exact (below_size (by repeat (first | (with_reducible first | exact HB.out | apply below_alloc | apply pw_below_drewN | apply below_drew1 | refine below_set ?_ GE167.out) | exact HB.out))) : w.heap.size ≤ gb170)); have n4_ := Aside0.mk ((by rw [hg]; exact (below_size (by repeat (first | (with_reducible first | exact HB.out | apply below_alloc | apply pw_below_drewN | apply below_drew1 | refine below_set ?_ GE167.out) | exact HB.out))) : w.heap.size ≤ gb170)); have n5_ := Aside0.mk ((by rw [hg]; exact Nat.ne_of_lt (blk_lt (g := gb167) (o := .cells #[.bool true, .slice (some ad168) l0_1.length c0_1] 92 (0, 0)) (by (with_reducible repeat (first | refine blk_drewN ?_ _ | refine blk_drew ?_ | refine blk_alloc ?_ _)); exact BK167.out)) : gb167 ≠ gb170)); have n6_ := Aside0.mk ((by rw [hg]; exact Nat.ne_of_gt (blk_lt (g := gb167) (o := .cells #[.bool true, .slice (some ad168) l0_1.length c0_1] 92 (0, 0)) (by (with_reducible repeat (first | refine blk_drewN ?_ _ | refine blk_drew ?_ | refine blk_alloc ?_ _)); exact BK167.out)) : gb170 ≠ gb167)); clear BK167; clear HB; have BK167 := n0_; have HB := n1_; have BK170 := n2_; have GW170 := n3_; have GE170 := n4_; have NB167_170 := n5_; have NB170_167 := n6_; clear n0_ n1_ n2_ n3_ n4_ n5_ n6_; clear hb hbox hg; have hnb22 := NB170_167.out; have hnc22 := NB167_170.out; have hcz23_0 : w21.cell? ⟨gb170, 0, none⟩ = some (.int .i64 0) := (blk_cell BK170.out 0).trans rfl; have hcz23_1 : w21.cell? ⟨gb170, 1, none⟩ = some (.slice none 0 0) := (blk_cell BK170.out 1).trans rfl; have hfz23_0 := blk_frozen BK170.out 0; have hfz23_1 := blk_frozen BK170.out 1) | ((with_reducible refine gate_callee (f := 124) rfl ?_); refine goesL_ (some 32) rfl rfl Tryd.func124 (by kernel_rfl) rfl #[.agg #[.int .i64 ((rd_T96 (rd_L5 l0_1 x18_1) x27_2).f0), .slice A169_1 ((rd_T96 (rd_L5 l0_1 x18_1) x27_2).f1).length c169_1]] rfl (by (try simp only [List.map_toArray, List.map_cons, List.map_nil]); first | done | rfl | (simp only [List.length_drop, List.length_take]; rfl)) ?_; (with_reducible refine (report_term.calls k2 ((rd_T96 (rd_L5 l0_1 x18_1) x27_2).f0) _ _ ((rd_T96 (rd_L5 l0_1 x18_1) x27_2).f1) t171 _ ?side1 ?side2 A15.out).mono ?_); (case side1 => exact Kd.C_below HR169_1.out (by repeat (first | (with_reducible first | exact HB.out | apply below_alloc | apply pw_below_drewN | apply below_drew1 | refine below_set ?_ GE167.out | refine below_set ?_ GE170.out) | exact HB.out))); (case side2 => exact HC169_1.out); rintro e w24 ⟨rfl, hb⟩; refine ⟨_, rfl, ?_⟩; have n0_ := Aside0.mk (blk_below (g := gb167) (o := .cells #[.bool true, .slice (some ad168) l0_1.length c0_1] 92 (0, 0)) (by (with_reducible repeat (first | refine blk_drewN ?_ _ | refine blk_drew ?_ | refine blk_alloc ?_ _)); refine blk_far ?_ NB167_170.out _; (with_reducible repeat (first | refine blk_drewN ?_ _ | refine blk_drew ?_ | refine blk_alloc ?_ _)); refine blk_far ?_ NB167_170.out _; (with_reducible repeat (first | refine blk_drewN ?_ _ | refine blk_drew ?_ | refine blk_alloc ?_ _)); exact BK167.out) hb); have n1_ := Aside0.mk (blk_below (g := gb170) (o := .cells #[.int .i64 ((rd_T96 (rd_L5 l0_1 x18_1) x27_2).f0), .slice A169_1 ((rd_T96 (rd_L5 l0_1 x18_1) x27_2).f1).length c169_1] 96 (0, 0)) (by (with_reducible repeat (first | refine blk_drewN ?_ _ | refine blk_drew ?_ | refine blk_alloc ?_ _)); refine blk_put (cs := #[.int .i64 ((rd_T96 (rd_L5 l0_1 x18_1) x27_2).f0), .slice none 0 0]) ?_ 1 _ rfl; (with_reducible repeat (first | refine blk_drewN ?_ _ | refine blk_drew ?_ | refine blk_alloc ?_ _)); refine blk_put (cs := #[.int .i64 0, .slice none 0 0]) ?_ 0 _ rfl; (with_reducible repeat (first | refine blk_drewN ?_ _ | refine blk_drew ?_ | refine blk_alloc ?_ _)); exact BK170.out) hb); have n2_ := Aside0.mk (below_step (by repeat (first | (with_reducible first | exact HB.out | apply below_alloc | apply pw_below_drewN | apply below_drew1 | refine below_set ?_ GE167.out | refine below_set ?_ GE170.out) | exact HB.out)) hb); clear BK167; clear BK170; clear HB; have BK167 := n0_; have BK170 := n1_; have HB := n2_; clear n0_ n1_ n2_; (try clear hb); (try clear hb2); (try clear hk); (try clear hi)))
               go_ret
               exact ⟨by first | rfl | (simp [errW_none, errW_some] <;> rfl) | (simp [*, errW_none, errW_some] <;> rfl), by repeat (first | (with_reducible first | exact HB.out | apply below_alloc | apply pw_below_drewN | apply below_drew1 | refine below_set ?_ GE167.out | refine below_set ?_ GE170.out) | exact HB.out)⟩
             ·rw [if_neg c14] at H
              exact absurd H (by simp)
            ·rw [if_neg c13] at H
             exact absurd H (by simp)
           ·rw [if_neg c12] at H
            have c12b0 : decide (x27_2 < ((rd_L5 l0_1 x18_1).length : Int)) = false := decide_eq_false c12
            clear c12
            have H' := Aside0.mk H
            clear H
            go_wp2
            go_roundg k2
            case measure => have := HK1.out; have := HK2.out; omega
            case rel => exact ⟨(wrap64 (x18_1 + 1)), (by first | rfl | (simp; done) | (simp [*]; done)), H', ⟨by have := HK1.out; have := HK2.out; omega⟩, ⟨by (with_reducible repeat (first | refine blk_drewN ?_ _ | refine blk_drew ?_ | refine blk_alloc ?_ _)); exact BK167.out⟩, ⟨by repeat (first | (with_reducible first | exact HB.out | apply below_alloc | apply pw_below_drewN | apply below_drew1 | refine below_set ?_ GE167.out) | exact HB.out)⟩⟩
       ·rw [if_neg c10] at H
        exact absurd H (by simp)
      ·rw [if_neg c9] at H
       exact absurd H (by simp)
     ·rw [if_neg c8] at H
      have c8b0 : decide (x18_1 < (l0_1.length : Int)) = false := decide_eq_false c8
      clear c8
      obtain rfl := Option.some.inj H
      go_wp2
      go_ret
      exact ⟨by first | rfl | (simp [errW_none, errW_some] <;> rfl) | (simp [*, errW_none, errW_some] <;> rfl), by repeat (first | (with_reducible first | exact HB.out | apply below_alloc | apply pw_below_drewN | apply below_drew1 | refine below_set ?_ GE167.out) | exact HB.out)⟩
 ·replace c2 := Bool.eq_false_iff.mpr c2
  subst c2
  have H1 : (some 2) = some r := by rw [if_neg (show ¬ (false = true) by decide)] at H; exact H
  clear H
  have H := H1
  clear H1
  obtain rfl := Option.some.inj H
  go_enter Tryd.func85, Tryd.ntmps85
  go_wp2_with (first | ((with_reducible refine gate_dst (N := 1) rfl ?_); refine box_event ?hg (N := 1) ?hd (cs := #[.bool false, .slice A0_1 l0_1.length c0_1]) (t := 92) ?hr ?_; (case hd => rfl); (case hg => rfl); (case hr => first | (go_simp; done) | (go_simp; rfl)); intro gb167 hg w25 hbox hb; have n0_ := Aside0.mk (below_step (by repeat (first | (with_reducible first | exact HB.out | apply below_alloc | apply pw_below_drewN | apply below_drew1) | exact HB.out)) hb); have n1_ := Aside0.mk (hbox); have n2_ := Aside0.mk ((by rw [hg]; exact (below_size (by repeat (first | (with_reducible first | exact HB.out | apply below_alloc | apply pw_below_drewN | apply below_drew1) | exact HB.out))) : w.heap.size ≤ gb167)); have n3_ := Aside0.mk ((by rw [hg]; exact (below_size (by repeat (first | (with_reducible first | exact HB.out | apply below_alloc | apply pw_below_drewN | apply below_drew1) | exact HB.out))) : w.heap.size ≤ gb167)); clear HB; have HB := n0_; have BK167 := n1_; have GW167 := n2_; have GE167 := n3_; clear n0_ n1_ n2_ n3_; clear hb hbox hg; have hcz26_0 : w25.cell? ⟨gb167, 0, none⟩ = some (.bool false) := (blk_cell BK167.out 0).trans rfl; have hcz26_1 : w25.cell? ⟨gb167, 1, none⟩ = some (.slice A0_1 l0_1.length c0_1) := (blk_cell BK167.out 1).trans rfl; have hfz26_0 := blk_frozen BK167.out 0; have hfz26_1 := blk_frozen BK167.out 1))
  go_ret
  exact ⟨by first | rfl | (simp [errW_none, errW_some] <;> rfl) | (simp [*, errW_none, errW_some] <;> rfl), by repeat (first | (with_reducible first | exact HB.out | apply below_alloc | apply pw_below_drewN | apply below_drew1 | refine below_set ?_ GE167.out) | exact HB.out)⟩
end Go.Proofs.YtadepdeckapgcaaDoor.PWitnessTells
end

section
namespace Go.Proofs.YtadepdeckapgcaaDoor.PWitnessTells
open Go.RowKit Go.Proofs.YtadepdeckapgcaaDoorW.PrintWords Go.Proofs.YtadepdeckapgcaaDoorW.PrintLast Go.Proofs.YtadepdeckapgcaaDoorW.PrintMore
attribute [local go_sem] max2_int min2_int max_two min_two max_three min_three max_four min_four
set_option linter.unusedVariables false
set_option linter.unusedSimpArgs false
mutual
def report_Check.j0 : Nat → Bool → Int → List Int → List (S92) → Option (Int)
 | 0, _, _, _, _ => none
 | k + 1, x16, x173000, x173001, x173002 => if x16 = true then (some 1) else (if (x173001.length : Int) = (x173002.length : Int) then (report_Check.l0 k (-1) x173001 (x173001.length : Int) 0 x173000 x173001 x173002) else (some 2))
def report_Check.l0 : Nat → Int → List Int → Int → Int → Int → List Int → List (S92) → Option (Int)
 | 0, _, _, _, _, _, _, _ => none
 | k + 1, x3, x25, x26, x27, x173000, x173001, x173002 => if x27 < x26 then (if 0 ≤ x27 then (if x27 < (x25.length : Int) then (if (rd x25 x27) ≤ x3 then (some 2) else (if (rd x25 x27) ≥ 64 then (some 2) else (report_Check.l0 k (rd x25 x27) x25 x26 (wrap64 (x27 + 1)) x173000 x173001 x173002))) else (none)) else (none)) else (report_Check.l1 k x173002 (x173002.length : Int) 0)
def report_Check.l1 : Nat → List (S92) → Int → Int → Option (Int)
 | 0, _, _, _ => none
 | k + 1, x41, x42, x43 => if x43 < x42 then (if 0 ≤ x43 then (if x43 < (x41.length : Int) then ((report_node.f k ((rd_T92 x41 x43).f0) ((rd_T92 x41 x43).f1)).bind fun t176 => (if t176 = 0 then (report_Check.l1 k x41 x42 (wrap64 (x43 + 1))) else (some t176))) else (none)) else (none)) else (some 0)
end
def report_Check.f (k : Nat) (a0_0 : Int) (l0_1 : List Int) (l0_2 : List (S92)) : Option (Int) := if a0_0 < 0 then (report_Check.j0 k true a0_0 l0_1 l0_2) else (report_Check.j0 k (decide (a0_0 > 1073741824)) a0_0 l0_1 l0_2)
set_option maxHeartbeats 8000000 in
set_option maxRecDepth 100000 in
theorem report_Check.calls (k : Nat) (a0_0 : Int) (A0_1 : Option Addr) (c0_1 : Nat) (l0_1 : List Int) (A0_2 : Option Addr) (c0_2 : Nat) (l0_2 : List (S92)) (r : Int) (w : World) (hr0_1 : Kd.C (Kd.int .i64) w A0_1 l0_1.length l0_1) (hc0_1 : l0_1.length ≤ c0_1) (hr0_2 : Kd.C k92 w A0_2 l0_2.length l0_2) (hc0_2 : l0_2.length ≤ c0_2) (h : report_Check.f k a0_0 l0_1 l0_2 = some r) :
  Calls Tryd.prog 40 #[.agg #[.int .i64 a0_0, .slice A0_1 l0_1.length c0_1, .slice A0_2 l0_2.length c0_2]] w fun e w' => e = .returned (.int .i64 r) ∧ Below w.heap.size w w' := by
 have hu25 := Tryd.underlying25
 have hu92 := Tryd.underlying92
 have HR0_1 := Aside0.mk hr0_1
 have HC0_1 := Aside0.mk hc0_1
 clear hr0_1 hc0_1
 have HR0_2 := Aside0.mk hr0_2
 have HC0_2 := Aside0.mk hc0_2
 clear hr0_2 hc0_2
 have HB := Aside0.mk (Below.refl w.heap.size w)
 have H : (if a0_0 < 0 then (report_Check.j0 k true a0_0 l0_1 l0_2) else (report_Check.j0 k (decide (a0_0 > 1073741824)) a0_0 l0_1 l0_2)) = some r := h
 clear h
 have HC2 := Aside0.mk H
 clear H
 go_enter Tryd.func40, Tryd.ntmps40
 go_upto_region 1 with (first | ((with_reducible refine gate_dst (N := 1) rfl ?_); refine box_event ?hg (N := 1) ?hd (cs := #[.int .i64 a0_0, .slice A0_1 l0_1.length c0_1, .slice A0_2 l0_2.length c0_2]) (t := 25) ?hr ?_; (case hd => rfl); (case hg => rfl); (case hr => first | (go_simp; done) | (go_simp; rfl)); intro gb172 hg w3 hbox hb; have n0_ := Aside0.mk (below_step (by repeat (first | (with_reducible first | exact HB.out | apply below_alloc | apply pw_below_drewN | apply below_drew1) | exact HB.out)) hb); have n1_ := Aside0.mk (hbox); have n2_ := Aside0.mk ((by rw [hg]; exact (below_size (by repeat (first | (with_reducible first | exact HB.out | apply below_alloc | apply pw_below_drewN | apply below_drew1) | exact HB.out))) : w.heap.size ≤ gb172)); have n3_ := Aside0.mk ((by rw [hg]; exact (below_size (by repeat (first | (with_reducible first | exact HB.out | apply below_alloc | apply pw_below_drewN | apply below_drew1) | exact HB.out))) : w.heap.size ≤ gb172)); clear HB; have HB := n0_; have BK172 := n1_; have GW172 := n2_; have GE172 := n3_; clear n0_ n1_ n2_ n3_; clear hb hbox hg))
 (try simp only [Act.put, List.setIfInBounds_toArray, List.set_cons_zero, List.set_cons_succ])
 go_cut [16] (fun v16 wc => ∃ (kq : Nat) (x16_1 : Bool), v16 = .bool x16_1 ∧ Aside0 (report_Check.j0 kq x16_1 a0_0 l0_1 l0_2 = some r) ∧ Aside0 (kq ≤ k) ∧ Aside0 (wc.heap[gb172]? = some (.cells #[.int .i64 a0_0, (.slice A0_1 l0_1.length c0_1), (.slice A0_2 l0_2.length c0_2)] 25 (0, 0))) ∧ Aside0 (Below w.heap.size w wc))
 case first =>
  have H := HC2.out
  clear HC2
  by_cases c4 : a0_0 < 0
  ·rw [if_pos c4] at H
   have c4b0 : decide (a0_0 < 0) = true := decide_eq_true c4
   clear c4
   (first | rw [c4b0] | (simp only [i64_w, i32_w]; rw [c4b0]) | skip)
   have H' := Aside0.mk H
   clear H
   have hcz5_0 : w3.cell? ⟨gb172, 0, none⟩ = some (.int .i64 a0_0) := (blk_cell BK172.out 0).trans rfl
   have hcz5_1 : w3.cell? ⟨gb172, 1, none⟩ = some (.slice A0_1 l0_1.length c0_1) := (blk_cell BK172.out 1).trans rfl
   have hcz5_2 : w3.cell? ⟨gb172, 2, none⟩ = some (.slice A0_2 l0_2.length c0_2) := (blk_cell BK172.out 2).trans rfl
   have hfz5_0 := blk_frozen BK172.out 0
   have hfz5_1 := blk_frozen BK172.out 1
   have hfz5_2 := blk_frozen BK172.out 2
   go_wp2
   go_meet
   case rel => exact ⟨_, (true), (by first | rfl | (simp; done) | (simp [*]; done)), H', ⟨by first | omega | exact Nat.le_refl _⟩, ⟨by (with_reducible repeat (first | refine blk_drewN ?_ _ | refine blk_drew ?_ | refine blk_alloc ?_ _)); exact BK172.out⟩, ⟨by repeat (first | (with_reducible first | exact HB.out | apply below_alloc | apply pw_below_drewN | apply below_drew1 | refine below_set ?_ GE172.out) | exact HB.out)⟩⟩
  ·rw [if_neg c4] at H
   have c4b0 : decide (a0_0 < 0) = false := decide_eq_false c4
   clear c4
   (first | rw [c4b0] | (simp only [i64_w, i32_w]; rw [c4b0]) | skip)
   have H' := Aside0.mk H
   clear H
   have hcz6_0 : w3.cell? ⟨gb172, 0, none⟩ = some (.int .i64 a0_0) := (blk_cell BK172.out 0).trans rfl
   have hcz6_1 : w3.cell? ⟨gb172, 1, none⟩ = some (.slice A0_1 l0_1.length c0_1) := (blk_cell BK172.out 1).trans rfl
   have hcz6_2 : w3.cell? ⟨gb172, 2, none⟩ = some (.slice A0_2 l0_2.length c0_2) := (blk_cell BK172.out 2).trans rfl
   have hfz6_0 := blk_frozen BK172.out 0
   have hfz6_1 := blk_frozen BK172.out 1
   have hfz6_2 := blk_frozen BK172.out 2
   go_wp2
   go_meet
   case rel => exact ⟨_, (decide (a0_0 > 1073741824)), (by first | rfl | (simp; done) | (simp [*]; done)), H', ⟨by first | omega | exact Nat.le_refl _⟩, ⟨by (with_reducible repeat (first | refine blk_drewN ?_ _ | refine blk_drew ?_ | refine blk_alloc ?_ _)); exact BK172.out⟩, ⟨by repeat (first | (with_reducible first | exact HB.out | apply below_alloc | apply pw_below_drewN | apply below_drew1 | refine below_set ?_ GE172.out) | exact HB.out)⟩⟩
 case rest =>
  clear HC2
  try clear p2
  try clear c4
  try clear c4b0
  try clear hcz5_0
  try clear hcz5_1
  try clear hcz5_2
  try clear hcz6_0
  try clear hcz6_1
  try clear hcz6_2
  try clear hfz5_0
  try clear hfz5_1
  try clear hfz5_2
  try clear hfz6_0
  try clear hfz6_1
  try clear hfz6_2
  obtain ⟨kq, x16_1, rfl, HA, HJ1, BK172, HB⟩ := hcut
  cases kq with
  | zero => exact absurd HA.out (by simp [report_Check.j0])
  | succ kj1 =>
   have H := HA.out
   clear HA
   simp only [report_Check.j0] at H
   by_cases c7 : x16_1 = true
   ·subst c7
    have H1 : (some 1) = some r := by rw [if_pos rfl] at H; exact H
    clear H
    have H := H1
    clear H1
    obtain rfl := Option.some.inj H
    go_wp2
    go_ret
    exact ⟨by first | rfl | (simp [errW_none, errW_some] <;> rfl) | (simp [*, errW_none, errW_some] <;> rfl), by repeat (first | (with_reducible first | exact HB.out | apply below_alloc | apply pw_below_drewN | apply below_drew1 | refine below_set ?_ GE172.out) | exact HB.out)⟩
   ·replace c7 := Bool.eq_false_iff.mpr c7
    subst c7
    have H1 : (if (l0_1.length : Int) = (l0_2.length : Int) then (report_Check.l0 kj1 (-1) l0_1 (l0_1.length : Int) 0 a0_0 l0_1 l0_2) else (some 2)) = some r := by rw [if_neg (show ¬ (false = true) by decide)] at H; exact H
    clear H
    have H := H1
    clear H1
    by_cases c8 : (l0_1.length : Int) = (l0_2.length : Int)
    ·rw [if_pos c8] at H
     have c8b0 : ((l0_1.length : Int) == (l0_2.length : Int)) = true := beq_iff_eq.mpr c8
     have c8b1 : ((l0_1.length : Int) != (l0_2.length : Int)) = false := bne_eq_false_iff_eq.mpr c8
     have c8b2 : (l0_1.length == l0_2.length) = true := by first | simpa using c8 | (simp at c8 ⊢; omega)
     clear c8
     have H' := Aside0.mk H
     clear H
     have hcz9_0 : wc.cell? ⟨gb172, 0, none⟩ = some (.int .i64 a0_0) := (blk_cell BK172.out 0).trans rfl
     have hcz9_1 : wc.cell? ⟨gb172, 1, none⟩ = some (.slice A0_1 l0_1.length c0_1) := (blk_cell BK172.out 1).trans rfl
     have hcz9_2 : wc.cell? ⟨gb172, 2, none⟩ = some (.slice A0_2 l0_2.length c0_2) := (blk_cell BK172.out 2).trans rfl
     have hfz9_0 := blk_frozen BK172.out 0
     have hfz9_1 := blk_frozen BK172.out 1
     have hfz9_2 := blk_frozen BK172.out 2
     go_wp2
     go_loopg [3, 27] kj1 (fun kq v3 v27 w' => ∃ (x3_2 : Int) (x27_2 : Int), v3 = .int .i64 x3_2 ∧ v27 = .int .i64 x27_2 ∧ Aside0 (report_Check.l0 kq x3_2 l0_1 (l0_1.length : Int) x27_2 a0_0 l0_1 l0_2 = some r) ∧ Aside0 (kq ≤ kj1) ∧ Aside0 (w'.heap[gb172]? = some (.cells #[.int .i64 a0_0, (.slice A0_1 l0_1.length c0_1), (.slice A0_2 l0_2.length c0_2)] 25 (0, 0))) ∧ Aside0 (Below w.heap.size w w'))
     case atStart => exact ⟨((-1)), (0), (by first | rfl | (simp; done) | (simp [*]; done)), (by first | rfl | (simp; done) | (simp [*]; done)), H', ⟨Nat.le_refl _⟩, ⟨by (with_reducible repeat (first | refine blk_drewN ?_ _ | refine blk_drew ?_ | refine blk_alloc ?_ _)); exact BK172.out⟩, ⟨by repeat (first | (with_reducible first | exact HB.out | apply below_alloc | apply pw_below_drewN | apply below_drew1 | refine below_set ?_ GE172.out) | exact HB.out)⟩⟩
     case round =>
      clear H'
      try clear p2
      try clear c4
      try clear c4b0
      try clear c7
      try clear c8
      try clear c8b0
      try clear c8b1
      try clear c8b2
      try clear hcz5_0
      try clear hcz5_1
      try clear hcz5_2
      try clear hcz6_0
      try clear hcz6_1
      try clear hcz6_2
      try clear hcz9_0
      try clear hcz9_1
      try clear hcz9_2
      try clear hfz5_0
      try clear hfz5_1
      try clear hfz5_2
      try clear hfz6_0
      try clear hfz6_1
      try clear hfz6_2
      try clear hfz9_0
      try clear hfz9_1
      try clear hfz9_2
      try clear p2
      obtain ⟨x3_2, x27_2, rfl, rfl, HA, HK2, BK172, HB⟩ := hrel
      cases gk with
      | zero => exact absurd HA.out (by simp [report_Check.l0])
      | succ k2 =>
       have H := HA.out
       clear HA
       simp only [report_Check.l0] at H
       by_cases c10 : x27_2 < (l0_1.length : Int)
       ·rw [if_pos c10] at H
        have c10b0 : decide (x27_2 < (l0_1.length : Int)) = true := decide_eq_true c10
        clear c10
        by_cases c11 : 0 ≤ x27_2
        ·rw [if_pos c11] at H
         have c11b0 : decide (0 ≤ x27_2) = true := decide_eq_true c11
         clear c11
         by_cases c12 : x27_2 < (l0_1.length : Int)
         ·rw [if_pos c12] at H
          have c12b0 : decide (x27_2 < (l0_1.length : Int)) = true := decide_eq_true c12
          clear c12
          by_cases c13 : (rd l0_1 x27_2) ≤ x3_2
          ·rw [if_pos c13] at H
           have c13b0 : decide ((rd l0_1 x27_2) ≤ x3_2) = true := decide_eq_true c13
           clear c13
           obtain rfl := Option.some.inj H
           have p173 : 0 ≤ (x27_2 : Int) := of_decide_eq_true (by first | (with_reducible assumption) | assumption)
           have q173 : x27_2 < (l0_1.length : Int) := of_decide_eq_true (by first | (with_reducible assumption) | assumption)
           obtain ⟨ad173, e173, hx173_0⟩ := Kd.at_int HR0_1.out x27_2 p173 q173
           cases e173
           replace hx173_0 := (HB.out.cell (World.block_lt_of_cell? w _ hx173_0)).trans hx173_0
           replace p173 := eq_true p173
           replace q173 := eq_true q173
           go_wp2
           go_ret
           exact ⟨by first | rfl | (simp [errW_none, errW_some] <;> rfl) | (simp [*, errW_none, errW_some] <;> rfl), by repeat (first | (with_reducible first | exact HB.out | apply below_alloc | apply pw_below_drewN | apply below_drew1 | refine below_set ?_ GE172.out) | exact HB.out)⟩
          ·rw [if_neg c13] at H
           have c13b0 : decide ((rd l0_1 x27_2) ≤ x3_2) = false := decide_eq_false c13
           clear c13
           by_cases c14 : (rd l0_1 x27_2) ≥ 64
           ·rw [if_pos c14] at H
            have c14b0 : decide (64 ≤ (rd l0_1 x27_2)) = true := decide_eq_true c14
            clear c14
            obtain rfl := Option.some.inj H
            have p173 : 0 ≤ (x27_2 : Int) := of_decide_eq_true (by first | (with_reducible assumption) | assumption)
            have q173 : x27_2 < (l0_1.length : Int) := of_decide_eq_true (by first | (with_reducible assumption) | assumption)
            obtain ⟨ad173, e173, hx173_0⟩ := Kd.at_int HR0_1.out x27_2 p173 q173
            cases e173
            replace hx173_0 := (HB.out.cell (World.block_lt_of_cell? w _ hx173_0)).trans hx173_0
            replace p173 := eq_true p173
            replace q173 := eq_true q173
            go_wp2
            go_ret
            exact ⟨by first | rfl | (simp [errW_none, errW_some] <;> rfl) | (simp [*, errW_none, errW_some] <;> rfl), by repeat (first | (with_reducible first | exact HB.out | apply below_alloc | apply pw_below_drewN | apply below_drew1 | refine below_set ?_ GE172.out) | exact HB.out)⟩
           ·rw [if_neg c14] at H
            have c14b0 : decide (64 ≤ (rd l0_1 x27_2)) = false := decide_eq_false c14
            clear c14
            have H' := Aside0.mk H
            clear H
            have p173 : 0 ≤ (x27_2 : Int) := of_decide_eq_true (by first | (with_reducible assumption) | assumption)
            have q173 : x27_2 < (l0_1.length : Int) := of_decide_eq_true (by first | (with_reducible assumption) | assumption)
            obtain ⟨ad173, e173, hx173_0⟩ := Kd.at_int HR0_1.out x27_2 p173 q173
            cases e173
            replace hx173_0 := (HB.out.cell (World.block_lt_of_cell? w _ hx173_0)).trans hx173_0
            replace p173 := eq_true p173
            replace q173 := eq_true q173
            go_wp2
            go_roundg k2
            case measure => have := HJ1.out; have := HK2.out; omega
            case rel => exact ⟨(rd l0_1 x27_2), (wrap64 (x27_2 + 1)), (by first | rfl | (simp; done) | (simp [*]; done)), (by first | rfl | (simp; done) | (simp [*]; done)), H', ⟨by have := HJ1.out; have := HK2.out; omega⟩, ⟨by (with_reducible repeat (first | refine blk_drewN ?_ _ | refine blk_drew ?_ | refine blk_alloc ?_ _)); exact BK172.out⟩, ⟨by repeat (first | (with_reducible first | exact HB.out | apply below_alloc | apply pw_below_drewN | apply below_drew1 | refine below_set ?_ GE172.out) | exact HB.out)⟩⟩
         ·rw [if_neg c12] at H
          exact absurd H (by simp)
        ·rw [if_neg c11] at H
         exact absurd H (by simp)
       ·rw [if_neg c10] at H
        have c10b0 : decide (x27_2 < (l0_1.length : Int)) = false := decide_eq_false c10
        clear c10
        have H' := Aside0.mk H
        clear H
        have hcz15_0 : wr.cell? ⟨gb172, 0, none⟩ = some (.int .i64 a0_0) := (blk_cell BK172.out 0).trans rfl
        have hcz15_1 : wr.cell? ⟨gb172, 1, none⟩ = some (.slice A0_1 l0_1.length c0_1) := (blk_cell BK172.out 1).trans rfl
        have hcz15_2 : wr.cell? ⟨gb172, 2, none⟩ = some (.slice A0_2 l0_2.length c0_2) := (blk_cell BK172.out 2).trans rfl
        have hfz15_0 := blk_frozen BK172.out 0
        have hfz15_1 := blk_frozen BK172.out 1
        have hfz15_2 := blk_frozen BK172.out 2
        go_wp2
        go_loopg [43] k2 (fun kq v43 w' => ∃ (x43_3 : Int), v43 = .int .i64 x43_3 ∧ Aside0 (report_Check.l1 kq l0_2 (l0_2.length : Int) x43_3 = some r) ∧ Aside0 (kq ≤ k2) ∧ Aside0 (w'.heap[gb172]? = some (.cells #[.int .i64 a0_0, (.slice A0_1 l0_1.length c0_1), (.slice A0_2 l0_2.length c0_2)] 25 (0, 0))) ∧ Aside0 (Below w.heap.size w w'))
        case atStart => exact ⟨(0), (by first | rfl | (simp; done) | (simp [*]; done)), H', ⟨Nat.le_refl _⟩, ⟨by (with_reducible repeat (first | refine blk_drewN ?_ _ | refine blk_drew ?_ | refine blk_alloc ?_ _)); exact BK172.out⟩, ⟨by repeat (first | (with_reducible first | exact HB.out | apply below_alloc | apply pw_below_drewN | apply below_drew1 | refine below_set ?_ GE172.out) | exact HB.out)⟩⟩
        case round =>
         clear H'
         try clear c1
         try clear p1
         try clear q1
         try clear hx1
         try clear p2
         try clear c4
         try clear c4b0
         try clear p6
         try clear c7
         try clear c8
         try clear c8b0
         try clear c8b1
         try clear c8b2
         try clear c10
         try clear c10b0
         try clear c11
         try clear c11b0
         try clear c12
         try clear c12b0
         try clear c13
         try clear c13b0
         try clear c14
         try clear c14b0
         try clear hcz15_0
         try clear hcz15_1
         try clear hcz15_2
         try clear hcz5_0
         try clear hcz5_1
         try clear hcz5_2
         try clear hcz6_0
         try clear hcz6_1
         try clear hcz6_2
         try clear hcz9_0
         try clear hcz9_1
         try clear hcz9_2
         try clear hfz15_0
         try clear hfz15_1
         try clear hfz15_2
         try clear hfz5_0
         try clear hfz5_1
         try clear hfz5_2
         try clear hfz6_0
         try clear hfz6_1
         try clear hfz6_2
         try clear hfz9_0
         try clear hfz9_1
         try clear hfz9_2
         try clear hx173_0
         try clear p173
         try clear p2
         try clear q173
         obtain ⟨x43_3, rfl, HA, HK3, BK172, HB⟩ := hrel
         cases gk with
         | zero => exact absurd HA.out (by simp [report_Check.l1])
         | succ k3 =>
          have H := HA.out
          clear HA
          simp only [report_Check.l1] at H
          by_cases c16 : x43_3 < (l0_2.length : Int)
          ·rw [if_pos c16] at H
           have c16b0 : decide (x43_3 < (l0_2.length : Int)) = true := decide_eq_true c16
           clear c16
           by_cases c17 : 0 ≤ x43_3
           ·rw [if_pos c17] at H
            have c17b0 : decide (0 ≤ x43_3) = true := decide_eq_true c17
            clear c17
            by_cases c18 : x43_3 < (l0_2.length : Int)
            ·rw [if_pos c18] at H
             have c18b0 : decide (x43_3 < (l0_2.length : Int)) = true := decide_eq_true c18
             clear c18
             replace H := Option.bind_eq_some_iff.mp H
             obtain ⟨t176, A190, H⟩ := H
             replace H : (if t176 = 0 then (report_Check.l1 k3 l0_2 (l0_2.length : Int) (wrap64 (x43_3 + 1))) else (some t176)) = some r := H
             have A19 := Aside0.mk A190
             clear A190
             by_cases c20 : t176 = 0
             ·rw [if_pos c20] at H
              have c20b0 : (t176 == 0) = true := beq_iff_eq.mpr c20
              have c20b1 : (t176 != 0) = false := bne_eq_false_iff_eq.mpr c20
              clear c20
              have H' := Aside0.mk H
              clear H
              have p174 : 0 ≤ (x43_3 : Int) := of_decide_eq_true (by first | (with_reducible assumption) | assumption)
              have q174 : x43_3 < (l0_2.length : Int) := of_decide_eq_true (by first | (with_reducible assumption) | assumption)
              obtain ⟨ad174, A174_1, c174_1, e174, hx174_0, hx174_1, hl174_1, hi174_1⟩ := at_T92 HR0_2.out x43_3 p174 q174
              cases e174
              replace hx174_0 := (HB.out.cell (World.block_lt_of_cell? w _ hx174_0)).trans hx174_0
              replace hx174_1 := (HB.out.cell (World.block_lt_of_cell? w _ hx174_1)).trans hx174_1
              have HR174_1 := Aside0.mk hi174_1
              have HC174_1 := Aside0.mk hl174_1
              clear hi174_1 hl174_1
              replace p174 := eq_true p174
              replace q174 := eq_true q174
              go_wp2_with (first | ((with_reducible refine gate_dst (N := 7) rfl ?_); refine box_event ?hg (N := 7) ?hd (cs := #[.bool false, .slice none 0 0]) (t := 92) ?hr ?_; (case hd => rfl); (case hg => rfl); (case hr => first | (go_simp; done) | (go_simp; rfl)); intro gb175 hg w21 hbox hb; have n0_ := Aside0.mk (blk_below (g := gb172) (o := .cells #[.int .i64 a0_0, .slice A0_1 l0_1.length c0_1, .slice (some ad174) l0_2.length c0_2] 25 (0, 0)) (by (with_reducible repeat (first | refine blk_drewN ?_ _ | refine blk_drew ?_ | refine blk_alloc ?_ _)); exact BK172.out) hb); have n1_ := Aside0.mk (below_step (by repeat (first | (with_reducible first | exact HB.out | apply below_alloc | apply pw_below_drewN | apply below_drew1 | refine below_set ?_ GE172.out) | exact HB.out)) hb); have n2_ := Aside0.mk (hbox); have n3_ := Aside0.mk ((by rw [hg]; exact (below_size (by repeat (first | (with_reducible first | exact HB.out | apply below_alloc | apply pw_below_drewN | apply below_drew1 | refine below_set ?_ GE172.out) | exact HB.out))) : w.heap.size ≤ gb175)); have n4_ := Aside0.mk ((by rw [hg]; exact (below_size (by repeat (first | (with_reducible first | exact HB.out | apply below_alloc | apply pw_below_drewN | apply below_drew1 | refine below_set ?_ GE172.out) | exact HB.out))) : w.heap.size ≤ gb175)); have n5_ := Aside0.mk ((by rw [hg]; exact Nat.ne_of_lt (blk_lt (g := gb172) (o := .cells #[.int .i64 a0_0, .slice A0_1 l0_1.length c0_1, .slice (some ad174) l0_2.length c0_2] 25 (0, 0)) (by (with_reducible repeat (first | refine blk_drewN ?_ _ | refine blk_drew ?_ | refine blk_alloc ?_ _)); exact BK172.out)) : gb172 ≠ gb175)); have n6_ := Aside0.mk ((by rw [hg]; exact Nat.ne_of_gt (blk_lt (g := gb172) (o := .cells #[.int .i64 a0_0, .slice A0_1 l0_1.length c0_1, .slice (some ad174) l0_2.length c0_2] 25 (0, 0)) (by (with_reducible repeat (first | refine blk_drewN ?_ _ | refine blk_drew ?_ | refine blk_alloc ?_ _)); exact BK172.out)) : gb175 ≠ gb172)); clear BK172; clear HB; have BK172 := n0_; have HB := n1_; have BK175 := n2_; have GW175 := n3_; have GE175 := n4_; have NB172_175 := n5_; have NB175_172 := n6_; clear n0_ n1_ n2_ n3_ n4_ n5_ n6_; clear hb hbox hg; have hnb22 := NB175_172.out; have hnc22 := NB172_175.out; have hcz23_0 : w21.cell? ⟨gb175, 0, none⟩ = some (.bool false) := (blk_cell BK175.out 0).trans rfl; have hcz23_1 : w21.cell? ⟨gb175, 1, none⟩ = some (.slice none 0 0) := (blk_cell BK175.out 1).trans rfl; have hfz23_0 := blk_frozen BK175.out 0; have hfz23_1 := blk_frozen BK175.out 1) | ((with_reducible refine gate_callee (f := 85) rfl ?_); refine goesL_ (some 48) rfl rfl Tryd.func85 (by kernel_rfl) rfl #[.agg #[.bool ((rd_T92 l0_2 x43_3).f0), .slice A174_1 ((rd_T92 l0_2 x43_3).f1).length c174_1]] rfl (by (try simp only [List.map_toArray, List.map_cons, List.map_nil]); first | done | rfl | (simp only [List.length_drop, List.length_take]; rfl)) ?_; (with_reducible refine (report_node.calls k3 ((rd_T92 l0_2 x43_3).f0) _ _ ((rd_T92 l0_2 x43_3).f1) t176 _ ?side1 ?side2 A19.out).mono ?_); (case side1 => exact Kd.C_below HR174_1.out (by repeat (first | (with_reducible first | exact HB.out | apply below_alloc | apply pw_below_drewN | apply below_drew1 | refine below_set ?_ GE172.out | refine below_set ?_ GE175.out) | exact HB.out))); (case side2 => exact HC174_1.out); rintro e w24 ⟨rfl, hb⟩; refine ⟨_, rfl, ?_⟩; have n0_ := Aside0.mk (blk_below (g := gb172) (o := .cells #[.int .i64 a0_0, .slice A0_1 l0_1.length c0_1, .slice (some ad174) l0_2.length c0_2] 25 (0, 0)) (by (with_reducible repeat (first | refine blk_drewN ?_ _ | refine blk_drew ?_ | refine blk_alloc ?_ _)); refine blk_far ?_ NB172_175.out _; (with_reducible repeat (first | refine blk_drewN ?_ _ | refine blk_drew ?_ | refine blk_alloc ?_ _)); refine blk_far ?_ NB172_175.out _; (with_reducible repeat (first | refine blk_drewN ?_ _ | refine blk_drew ?_ | refine blk_alloc ?_ _)); exact BK172.out) hb); have n1_ := Aside0.mk (blk_below (g := gb175) (o := .cells #[.bool ((rd_T92 l0_2 x43_3).f0), .slice A174_1 ((rd_T92 l0_2 x43_3).f1).length c174_1] 92 (0, 0)) (by (with_reducible repeat (first | refine blk_drewN ?_ _ | refine blk_drew ?_ | refine blk_alloc ?_ _)); refine blk_put (cs := #[.bool ((rd_T92 l0_2 x43_3).f0), .slice none 0 0]) ?_ 1 _ rfl; (with_reducible repeat (first | refine blk_drewN ?_ _ | refine blk_drew ?_ | refine blk_alloc ?_ _)); refine blk_put (cs := #[.bool false, .slice none 0 0]) ?_ 0 _ rfl; (with_reducible repeat (first | refine blk_drewN ?_ _ | refine blk_drew ?_ | refine blk_alloc ?_ _)); exact BK175.out) hb); have n2_ := Aside0.mk (below_step (by repeat (first | (with_reducible first | exact HB.out | apply below_alloc | apply pw_below_drewN | apply below_drew1 | refine below_set ?_ GE172.out | refine below_set ?_ GE175.out) | exact HB.out)) hb); clear BK172; clear BK175; clear HB; have BK172 := n0_; have BK175 := n1_; have HB := n2_; clear n0_ n1_ n2_; (try clear hb); (try clear hb2); (try clear hk); (try clear hi)))
              go_roundg k3
              case measure => have := HJ1.out; have := HK2.out; have := HK3.out; omega
              case rel => exact ⟨(wrap64 (x43_3 + 1)), (by first | rfl | (simp; done) | (simp [*]; done)), H', ⟨by have := HJ1.out; have := HK2.out; have := HK3.out; omega⟩, ⟨by (with_reducible repeat (first | refine blk_drewN ?_ _ | refine blk_drew ?_ | refine blk_alloc ?_ _)); exact BK172.out⟩, ⟨by repeat (first | (with_reducible first | exact HB.out | apply below_alloc | apply pw_below_drewN | apply below_drew1 | refine below_set ?_ GE172.out | refine below_set ?_ GE175.out) | exact HB.out)⟩⟩
             ·rw [if_neg c20] at H
              have c20b0 : (t176 == 0) = false := beq_eq_false_iff_ne.mpr c20
              have c20b1 : (t176 != 0) = true := bne_iff_ne.mpr c20
              obtain rfl := Option.some.inj H
              have p174 : 0 ≤ (x43_3 : Int) := of_decide_eq_true (by first | (with_reducible assumption) | assumption)
              have q174 : x43_3 < (l0_2.length : Int) := of_decide_eq_true (by first | (with_reducible assumption) | assumption)
              obtain ⟨ad174, A174_1, c174_1, e174, hx174_0, hx174_1, hl174_1, hi174_1⟩ := at_T92 HR0_2.out x43_3 p174 q174
              cases e174
              replace hx174_0 := (HB.out.cell (World.block_lt_of_cell? w _ hx174_0)).trans hx174_0
              replace hx174_1 := (HB.out.cell (World.block_lt_of_cell? w _ hx174_1)).trans hx174_1
              have HR174_1 := Aside0.mk hi174_1
              have HC174_1 := Aside0.mk hl174_1
              clear hi174_1 hl174_1
              replace p174 := eq_true p174
              replace q174 := eq_true q174
              go_wp2_with (first | ((with_reducible refine gate_dst (N := 7) rfl ?_); refine box_event ?hg (N := 7) ?hd (cs := #[.bool false, .slice none 0 0]) (t := 92) ?hr ?_; (case hd => rfl); (case hg => rfl); (case hr => first | (go_simp; done) | (go_simp; rfl)); intro gb175 hg w25 hbox hb; have n0_ := Aside0.mk (blk_below (g := gb172) (o := .cells #[.int .i64 a0_0, .slice A0_1 l0_1.length c0_1, .slice (some ad174) l0_2.length c0_2] 25 (0, 0)) (by (with_reducible repeat (first | refine blk_drewN ?_ _ | refine blk_drew ?_ | refine blk_alloc ?_ _)); exact BK172.out) hb); have n1_ := Aside0.mk (below_step (by repeat (first | (with_reducible first | exact HB.out | apply below_alloc | apply pw_below_drewN | apply below_drew1 | refine below_set ?_ GE172.out) | exact HB.out)) hb); have n2_ := Aside0.mk (hbox); have n3_ := Aside0.mk ((by rw [hg]; exact (below_size (by repeat (first | (with_reducible first | exact HB.out | apply below_alloc | apply pw_below_drewN | apply below_drew1 | refine below_set ?_ GE172.out) | exact HB.out))) : w.heap.size ≤ gb175)); have n4_ := Aside0.mk ((by rw [hg]; exact (below_size (by repeat (first | (with_reducible first | exact HB.out | apply below_alloc | apply pw_below_drewN | apply below_drew1 | refine below_set ?_ GE172.out) | exact HB.out))) : w.heap.size ≤ gb175)); have n5_ := Aside0.mk ((by rw [hg]; exact Nat.ne_of_lt (blk_lt (g := gb172) (o := .cells #[.int .i64 a0_0, .slice A0_1 l0_1.length c0_1, .slice (some ad174) l0_2.length c0_2] 25 (0, 0)) (by (with_reducible repeat (first | refine blk_drewN ?_ _ | refine blk_drew ?_ | refine blk_alloc ?_ _)); exact BK172.out)) : gb172 ≠ gb175)); have n6_ := Aside0.mk ((by rw [hg]; exact Nat.ne_of_gt (blk_lt (g := gb172) (o := .cells #[.int .i64 a0_0, .slice A0_1 l0_1.length c0_1, .slice (some ad174) l0_2.length c0_2] 25 (0, 0)) (by (with_reducible repeat (first | refine blk_drewN ?_ _ | refine blk_drew ?_ | refine blk_alloc ?_ _)); exact BK172.out)) : gb175 ≠ gb172)); clear BK172; clear HB; have BK172 := n0_; have HB := n1_; have BK175 := n2_; have GW175 := n3_; have GE175 := n4_; have NB172_175 := n5_; have NB175_172 := n6_; clear n0_ n1_ n2_ n3_ n4_ n5_ n6_; clear hb hbox hg; have hnb26 := NB175_172.out; have hnc26 := NB172_175.out; have hcz27_0 : w25.cell? ⟨gb175, 0, none⟩ = some (.bool false) := (blk_cell BK175.out 0).trans rfl; have hcz27_1 : w25.cell? ⟨gb175, 1, none⟩ = some (.slice none 0 0) := (blk_cell BK175.out 1).trans rfl; have hfz27_0 := blk_frozen BK175.out 0; have hfz27_1 := blk_frozen BK175.out 1) | ((with_reducible refine gate_callee (f := 85) rfl ?_); refine goesL_ (some 48) rfl rfl Tryd.func85 (by kernel_rfl) rfl #[.agg #[.bool ((rd_T92 l0_2 x43_3).f0), .slice A174_1 ((rd_T92 l0_2 x43_3).f1).length c174_1]] rfl (by (try simp only [List.map_toArray, List.map_cons, List.map_nil]); first | done | rfl | (simp only [List.length_drop, List.length_take]; rfl)) ?_; (with_reducible refine (report_node.calls k3 ((rd_T92 l0_2 x43_3).f0) _ _ ((rd_T92 l0_2 x43_3).f1) t176 _ ?side1 ?side2 A19.out).mono ?_); (case side1 => exact Kd.C_below HR174_1.out (by repeat (first | (with_reducible first | exact HB.out | apply below_alloc | apply pw_below_drewN | apply below_drew1 | refine below_set ?_ GE172.out | refine below_set ?_ GE175.out) | exact HB.out))); (case side2 => exact HC174_1.out); rintro e w28 ⟨rfl, hb⟩; refine ⟨_, rfl, ?_⟩; have n0_ := Aside0.mk (blk_below (g := gb172) (o := .cells #[.int .i64 a0_0, .slice A0_1 l0_1.length c0_1, .slice (some ad174) l0_2.length c0_2] 25 (0, 0)) (by (with_reducible repeat (first | refine blk_drewN ?_ _ | refine blk_drew ?_ | refine blk_alloc ?_ _)); refine blk_far ?_ NB172_175.out _; (with_reducible repeat (first | refine blk_drewN ?_ _ | refine blk_drew ?_ | refine blk_alloc ?_ _)); refine blk_far ?_ NB172_175.out _; (with_reducible repeat (first | refine blk_drewN ?_ _ | refine blk_drew ?_ | refine blk_alloc ?_ _)); exact BK172.out) hb); have n1_ := Aside0.mk (blk_below (g := gb175) (o := .cells #[.bool ((rd_T92 l0_2 x43_3).f0), .slice A174_1 ((rd_T92 l0_2 x43_3).f1).length c174_1] 92 (0, 0)) (by (with_reducible repeat (first | refine blk_drewN ?_ _ | refine blk_drew ?_ | refine blk_alloc ?_ _)); refine blk_put (cs := #[.bool ((rd_T92 l0_2 x43_3).f0), .slice none 0 0]) ?_ 1 _ rfl; (with_reducible repeat (first | refine blk_drewN ?_ _ | refine blk_drew ?_ | refine blk_alloc ?_ _)); refine blk_put (cs := #[.bool false, .slice none 0 0]) ?_ 0 _ rfl; (with_reducible repeat (first | refine blk_drewN ?_ _ | refine blk_drew ?_ | refine blk_alloc ?_ _)); exact BK175.out) hb); have n2_ := Aside0.mk (below_step (by repeat (first | (with_reducible first | exact HB.out | apply below_alloc | apply pw_below_drewN | apply below_drew1 | refine below_set ?_ GE172.out | refine below_set ?_ GE175.out) | exact HB.out)) hb); clear BK172; clear BK175; clear HB; have BK172 := n0_; have BK175 := n1_; have HB := n2_; clear n0_ n1_ n2_; (try clear hb); (try clear hb2); (try clear hk); (try clear hi)))
              go_ret
              exact ⟨by first | rfl | (simp [errW_none, errW_some] <;> rfl) | (simp [*, errW_none, errW_some] <;> rfl), by repeat (first | (with_reducible first | exact HB.out | apply below_alloc | apply pw_below_drewN | apply below_drew1 | refine below_set ?_ GE172.out | refine below_set ?_ GE175.out) | exact HB.out)⟩
            ·rw [if_neg c18] at H
             exact absurd H (by simp)
           ·rw [if_neg c17] at H
            exact absurd H (by simp)
          ·rw [if_neg c16] at H
           have c16b0 : decide (x43_3 < (l0_2.length : Int)) = false := decide_eq_false c16
           clear c16
           obtain rfl := Option.some.inj H
           go_wp2
           go_ret
           exact ⟨by first | rfl | (simp [errW_none, errW_some] <;> rfl) | (simp [*, errW_none, errW_some] <;> rfl), by repeat (first | (with_reducible first | exact HB.out | apply below_alloc | apply pw_below_drewN | apply below_drew1 | refine below_set ?_ GE172.out) | exact HB.out)⟩
    ·rw [if_neg c8] at H
     have c8b0 : ((l0_1.length : Int) == (l0_2.length : Int)) = false := beq_eq_false_iff_ne.mpr c8
     have c8b1 : ((l0_1.length : Int) != (l0_2.length : Int)) = true := bne_iff_ne.mpr c8
     have c8b2 : (l0_1.length == l0_2.length) = false := by first | simpa using c8 | (simp at c8 ⊢; omega)
     obtain rfl := Option.some.inj H
     have hcz29_0 : wc.cell? ⟨gb172, 0, none⟩ = some (.int .i64 a0_0) := (blk_cell BK172.out 0).trans rfl
     have hcz29_1 : wc.cell? ⟨gb172, 1, none⟩ = some (.slice A0_1 l0_1.length c0_1) := (blk_cell BK172.out 1).trans rfl
     have hcz29_2 : wc.cell? ⟨gb172, 2, none⟩ = some (.slice A0_2 l0_2.length c0_2) := (blk_cell BK172.out 2).trans rfl
     have hfz29_0 := blk_frozen BK172.out 0
     have hfz29_1 := blk_frozen BK172.out 1
     have hfz29_2 := blk_frozen BK172.out 2
     go_wp2
     go_ret
     exact ⟨by first | rfl | (simp [errW_none, errW_some] <;> rfl) | (simp [*, errW_none, errW_some] <;> rfl), by repeat (first | (with_reducible first | exact HB.out | apply below_alloc | apply pw_below_drewN | apply below_drew1 | refine below_set ?_ GE172.out) | exact HB.out)⟩
def cmp_isNaN_int.f (a0 : Int) : Option (Bool) := some (a0 != a0)
set_option maxHeartbeats 8000000 in
set_option maxRecDepth 100000 in
theorem cmp_isNaN_int.calls (a0 : Int) (r : Bool) (w : World) (h : cmp_isNaN_int.f a0 = some r) :
  Calls Tryd.prog 118 #[.int .i64 a0] w fun e w' => e = .returned (.bool r) ∧ Drawn0 w w' := by
 have H : (some (a0 != a0)) = some r := h
 clear h
 obtain rfl := Option.some.inj H
 go_enter Tryd.func118, Tryd.ntmps118
 go_wp2
 go_ret
 exact ⟨by first | rfl | (simp; done) | (simp [*]; done), by repeat (first | exact Drawn0.refl _ | apply Drawn0.step)⟩
def cmp_Less_int.f (a0 : Int) (a1 : Int) : Option (Bool) := (cmp_isNaN_int.f a0).bind fun t177 => (if t177 = true then ((cmp_isNaN_int.f a1).bind fun t178 => (if t178 = true then (some (decide (a0 < a1))) else (some true))) else (some (decide (a0 < a1))))
set_option maxHeartbeats 8000000 in
set_option maxRecDepth 100000 in
theorem cmp_Less_int.calls (a0 : Int) (a1 : Int) (r : Bool) (w : World) (h : cmp_Less_int.f a0 a1 = some r) :
  Calls Tryd.prog 99 #[.int .i64 a0, .int .i64 a1] w fun e w' => e = .returned (.bool r) ∧ Drawn0 w w' := by
 have H : ((cmp_isNaN_int.f a0).bind fun t177 => (if t177 = true then ((cmp_isNaN_int.f a1).bind fun t178 => (if t178 = true then (some (decide (a0 < a1))) else (some true))) else (some (decide (a0 < a1))))) = some r := h
 clear h
 replace H := Option.bind_eq_some_iff.mp H
 obtain ⟨t177, A30, H⟩ := H
 replace H : (if t177 = true then ((cmp_isNaN_int.f a1).bind fun t178 => (if t178 = true then (some (decide (a0 < a1))) else (some true))) else (some (decide (a0 < a1)))) = some r := H
 have A3 := Aside0.mk A30
 clear A30
 by_cases c4 : t177 = true
 ·subst c4
  have H1 : ((cmp_isNaN_int.f a1).bind fun t178 => (if t178 = true then (some (decide (a0 < a1))) else (some true))) = some r := by rw [if_pos rfl] at H; exact H
  clear H
  have H := H1
  clear H1
  replace H := Option.bind_eq_some_iff.mp H
  obtain ⟨t178, A50, H⟩ := H
  replace H : (if t178 = true then (some (decide (a0 < a1))) else (some true)) = some r := H
  have A5 := Aside0.mk A50
  clear A50
  by_cases c6 : t178 = true
  ·subst c6
   have H1 : (some (decide (a0 < a1))) = some r := by rw [if_pos rfl] at H; exact H
   clear H
   have H := H1
   clear H1
   obtain rfl := Option.some.inj H
   go_enter Tryd.func99, Tryd.ntmps99
   go_wp2_with (first | ((with_reducible refine gate_callee (f := 118) rfl ?_); refine goesL_ (some 6) rfl rfl Tryd.func118 (by kernel_rfl) rfl #[.int .i64 a0] rfl (by (try simp only [List.map_toArray, List.map_cons, List.map_nil]); first | done | rfl | (simp only [List.length_drop, List.length_take]; rfl)) ?_; (with_reducible refine (cmp_isNaN_int.calls a0 true _ A3.out).mono ?_); rintro e w' ⟨rfl, ⟨nd, rfl⟩⟩; refine ⟨_, rfl, ?_⟩) | (go_at_call 118; (with_reducible refine (cmp_isNaN_int.calls a1 true _ A5.out).mono ?_); rintro e w' ⟨rfl, ⟨nd, rfl⟩⟩))
   go_ret
   exact ⟨by first | rfl | (simp; done) | (simp [*]; done), by repeat (first | exact Drawn0.refl _ | apply Drawn0.step)⟩
  ·replace c6 := Bool.eq_false_iff.mpr c6
   subst c6
   have H1 : (some true) = some r := by rw [if_neg (show ¬ (false = true) by decide)] at H; exact H
   clear H
   have H := H1
   clear H1
   obtain rfl := Option.some.inj H
   go_enter Tryd.func99, Tryd.ntmps99
   go_wp2_with (first | ((with_reducible refine gate_callee (f := 118) rfl ?_); refine goesL_ (some 6) rfl rfl Tryd.func118 (by kernel_rfl) rfl #[.int .i64 a0] rfl (by (try simp only [List.map_toArray, List.map_cons, List.map_nil]); first | done | rfl | (simp only [List.length_drop, List.length_take]; rfl)) ?_; (with_reducible refine (cmp_isNaN_int.calls a0 true _ A3.out).mono ?_); rintro e w' ⟨rfl, ⟨nd, rfl⟩⟩; refine ⟨_, rfl, ?_⟩) | (go_at_call 118; (with_reducible refine (cmp_isNaN_int.calls a1 false _ A5.out).mono ?_); rintro e w' ⟨rfl, ⟨nd, rfl⟩⟩))
   go_ret
   exact ⟨by first | rfl | (simp; done) | (simp [*]; done), by repeat (first | exact Drawn0.refl _ | apply Drawn0.step)⟩
 ·replace c4 := Bool.eq_false_iff.mpr c4
  subst c4
  have H1 : (some (decide (a0 < a1))) = some r := by rw [if_neg (show ¬ (false = true) by decide)] at H; exact H
  clear H
  have H := H1
  clear H1
  obtain rfl := Option.some.inj H
  go_enter Tryd.func99, Tryd.ntmps99
  go_wp2_with (first | ((with_reducible refine gate_callee (f := 118) rfl ?_); refine goesL_ (some 6) rfl rfl Tryd.func118 (by kernel_rfl) rfl #[.int .i64 a0] rfl (by (try simp only [List.map_toArray, List.map_cons, List.map_nil]); first | done | rfl | (simp only [List.length_drop, List.length_take]; rfl)) ?_; (with_reducible refine (cmp_isNaN_int.calls a0 false _ A3.out).mono ?_); rintro e w' ⟨rfl, ⟨nd, rfl⟩⟩; refine ⟨_, rfl, ?_⟩))
  go_ret
  exact ⟨by first | rfl | (simp; done) | (simp [*]; done), by repeat (first | exact Drawn0.refl _ | apply Drawn0.step)⟩
def slices_isNaN_int.f (a0 : Int) : Option (Bool) := some (a0 != a0)
set_option maxHeartbeats 8000000 in
set_option maxRecDepth 100000 in
theorem slices_isNaN_int.calls (a0 : Int) (r : Bool) (w : World) (h : slices_isNaN_int.f a0 = some r) :
  Calls Tryd.prog 100 #[.int .i64 a0] w fun e w' => e = .returned (.bool r) ∧ Drawn0 w w' := by
 have H : (some (a0 != a0)) = some r := h
 clear h
 obtain rfl := Option.some.inj H
 go_enter Tryd.func100, Tryd.ntmps100
 go_wp2
 go_ret
 exact ⟨by first | rfl | (simp; done) | (simp [*]; done), by repeat (first | exact Drawn0.refl _ | apply Drawn0.step)⟩
def slices_BinarySearch_int_int.l0 : Nat → List Int → Int → Int → Int → Int → Option (Int × Bool)
 | 0, _, _, _, _, _ => none
 | k + 1, x0, x1, x6, x7, x8 => if x7 < x8 then (if 0 ≤ (wrap64 ((IntKind.u64.wrap (wrap64 (x7 + x8))) / 2)) then (if (wrap64 ((IntKind.u64.wrap (wrap64 (x7 + x8))) / 2)) < (x0.length : Int) then ((cmp_Less_int.f (rd x0 (wrap64 ((IntKind.u64.wrap (wrap64 (x7 + x8))) / 2))) x1).bind fun t180 => (if t180 = true then (slices_BinarySearch_int_int.l0 k x0 x1 x6 (wrap64 ((wrap64 ((IntKind.u64.wrap (wrap64 (x7 + x8))) / 2)) + 1)) x8) else (slices_BinarySearch_int_int.l0 k x0 x1 x6 x7 (wrap64 ((IntKind.u64.wrap (wrap64 (x7 + x8))) / 2))))) else (none)) else (none)) else (if x7 < x6 then (if 0 ≤ x7 then (if x7 < (x0.length : Int) then (if (rd x0 x7) = x1 then (some (x7, true)) else ((slices_isNaN_int.f (rd x0 x7)).bind fun t183 => (if t183 = true then ((slices_isNaN_int.f x1).bind fun t184 => (some (x7, t184))) else (some (x7, false))))) else (none)) else (none)) else (some (x7, false)))
def slices_BinarySearch_int_int.f (k : Nat) (l0 : List Int) (a1 : Int) : Option (Int × Bool) := slices_BinarySearch_int_int.l0 k l0 a1 (l0.length : Int) 0 (l0.length : Int)
set_option maxHeartbeats 8000000 in
set_option maxRecDepth 100000 in
theorem slices_BinarySearch_int_int.calls (k : Nat) (A0 : Option Addr) (c0 : Nat) (l0 : List Int) (a1 : Int) (r1 : Int) (r2 : Bool) (w : World) (hr0 : Kd.C (Kd.int .i64) w A0 l0.length l0) (hc0 : l0.length ≤ c0) (h : slices_BinarySearch_int_int.f k l0 a1 = some (r1, r2)) :
  Calls Tryd.prog 55 #[.slice A0 l0.length c0, .int .i64 a1] w fun e w' => e = .returned (.tuple #[.int .i64 r1, .bool r2]) ∧ Drawn0 w w' := by
 have HR0 := Aside0.mk hr0
 have HC0 := Aside0.mk hc0
 clear hr0 hc0
 have H : (slices_BinarySearch_int_int.l0 k l0 a1 (l0.length : Int) 0 (l0.length : Int)) = some (r1, r2) := h
 clear h
 have H' := Aside0.mk H
 clear H
 go_enter Tryd.func55, Tryd.ntmps55
 go_wp2
 go_loopg [7, 8] k (fun kq v7 v8 w' => ∃ (x7_1 : Int) (x8_1 : Int), v7 = .int .i64 x7_1 ∧ v8 = .int .i64 x8_1 ∧ Aside0 (slices_BinarySearch_int_int.l0 kq l0 a1 (l0.length : Int) x7_1 x8_1 = some (r1, r2)) ∧ Aside0 (kq ≤ k) ∧ Drawn0 w w')
 case atStart => exact ⟨(0), ((l0.length : Int)), (by first | rfl | (simp; done) | (simp [*]; done)), (by first | rfl | (simp; done) | (simp [*]; done)), H', ⟨Nat.le_refl _⟩, by repeat (first | exact Drawn0.refl _ | apply Drawn0.step)⟩
 case round =>
  clear H'
  try clear p2
  obtain ⟨x7_1, x8_1, rfl, rfl, HA, HK1, ⟨m1, rfl⟩⟩ := hrel
  cases gk with
  | zero => exact absurd HA.out (by simp [slices_BinarySearch_int_int.l0])
  | succ k1 =>
   have H := HA.out
   clear HA
   simp only [slices_BinarySearch_int_int.l0] at H
   by_cases c3 : x7_1 < x8_1
   ·rw [if_pos c3] at H
    have c3b0 : decide (x7_1 < x8_1) = true := decide_eq_true c3
    clear c3
    obtain ⟨ji4, hji4⟩ : ∃ j_ : Int, (wrap64 ((IntKind.u64.wrap (wrap64 (x7_1 + x8_1))) / 2)) = j_ := ⟨_, rfl⟩
    replace H : (if 0 ≤ (ji4) then (if (ji4) < (l0.length : Int) then ((cmp_Less_int.f (rd l0 (ji4)) a1).bind fun t180 => (if t180 = true then (slices_BinarySearch_int_int.l0 k1 l0 a1 (l0.length : Int) (wrap64 ((ji4) + 1)) x8_1) else (slices_BinarySearch_int_int.l0 k1 l0 a1 (l0.length : Int) x7_1 ji4))) else (none)) else (none)) = some (r1, r2) := by first | (rw [hji4] at H; exact H) | (simp only [hji4] at H ⊢; exact H)
    have hji4w : (IntKind.i64.wrap ((IntKind.u64.wrap (wrap64 (x7_1 + x8_1))) / 2)) = ji4 := (i64_w _).trans hji4
    by_cases c5 : 0 ≤ (ji4)
    ·rw [if_pos c5] at H
     have c5b0 : decide (0 ≤ (ji4)) = true := decide_eq_true c5
     clear c5
     by_cases c6 : (ji4) < (l0.length : Int)
     ·rw [if_pos c6] at H
      have c6b0 : decide ((ji4) < (l0.length : Int)) = true := decide_eq_true c6
      clear c6
      replace H := Option.bind_eq_some_iff.mp H
      obtain ⟨t180, A70, H⟩ := H
      replace H : (if t180 = true then (slices_BinarySearch_int_int.l0 k1 l0 a1 (l0.length : Int) (wrap64 ((ji4) + 1)) x8_1) else (slices_BinarySearch_int_int.l0 k1 l0 a1 (l0.length : Int) x7_1 ji4)) = some (r1, r2) := H
      have A7 := Aside0.mk A70
      clear A70
      by_cases c8 : t180 = true
      ·subst c8
       have H1 : (slices_BinarySearch_int_int.l0 k1 l0 a1 (l0.length : Int) (wrap64 ((ji4) + 1)) x8_1) = some (r1, r2) := by rw [if_pos rfl] at H; exact H
       clear H
       have H := H1
       clear H1
       have H' := Aside0.mk H
       clear H
       have p179 : 0 ≤ ((ji4) : Int) := of_decide_eq_true (by first | (with_reducible assumption) | assumption)
       have q179 : (ji4) < (l0.length : Int) := of_decide_eq_true (by first | (with_reducible assumption) | assumption)
       obtain ⟨ad179, e179, hx179_0⟩ := Kd.at_int HR0.out (ji4) p179 q179
       cases e179
       replace p179 := eq_true p179
       replace q179 := eq_true q179
       go_wp2_with (first | ((with_reducible refine gate_callee (f := 99) rfl ?_); refine goesL_ (some 27) rfl rfl Tryd.func99 (by kernel_rfl) rfl #[.int .i64 (rd l0 (ji4)), .int .i64 a1] rfl (by (try simp only [List.map_toArray, List.map_cons, List.map_nil]); first | done | (simp only [hji4]; rfl) | rfl | (simp only [List.length_drop, List.length_take]; rfl)) ?_; (with_reducible refine (cmp_Less_int.calls (rd l0 (ji4)) a1 true _ A7.out).mono ?_); rintro e w' ⟨rfl, ⟨nd, rfl⟩⟩; refine ⟨_, rfl, ?_⟩))
       go_roundg k1
       case measure => have := HK1.out; omega
       case rel => exact ⟨(wrap64 ((ji4) + 1)), (x8_1), (by first | rfl | (simp; done) | (simp only [← hji4] <;> (first | rfl | simp)) | (simp [*]; done)), (by first | rfl | (simp; done) | (simp [*]; done)), H', ⟨by have := HK1.out; omega⟩, by repeat (first | exact Drawn0.refl _ | apply Drawn0.step)⟩
      ·replace c8 := Bool.eq_false_iff.mpr c8
       subst c8
       have H1 : (slices_BinarySearch_int_int.l0 k1 l0 a1 (l0.length : Int) x7_1 ji4) = some (r1, r2) := by rw [if_neg (show ¬ (false = true) by decide)] at H; exact H
       clear H
       have H := H1
       clear H1
       have H' := Aside0.mk H
       clear H
       have p179 : 0 ≤ ((ji4) : Int) := of_decide_eq_true (by first | (with_reducible assumption) | assumption)
       have q179 : (ji4) < (l0.length : Int) := of_decide_eq_true (by first | (with_reducible assumption) | assumption)
       obtain ⟨ad179, e179, hx179_0⟩ := Kd.at_int HR0.out (ji4) p179 q179
       cases e179
       replace p179 := eq_true p179
       replace q179 := eq_true q179
       go_wp2_with (first | ((with_reducible refine gate_callee (f := 99) rfl ?_); refine goesL_ (some 27) rfl rfl Tryd.func99 (by kernel_rfl) rfl #[.int .i64 (rd l0 (ji4)), .int .i64 a1] rfl (by (try simp only [List.map_toArray, List.map_cons, List.map_nil]); first | done | (simp only [hji4]; rfl) | rfl | (simp only [List.length_drop, List.length_take]; rfl)) ?_; (with_reducible refine (cmp_Less_int.calls (rd l0 (ji4)) a1 false _ A7.out).mono ?_); rintro e w' ⟨rfl, ⟨nd, rfl⟩⟩; refine ⟨_, rfl, ?_⟩))
       go_roundg k1
       case measure => have := HK1.out; omega
       case rel => exact ⟨(x7_1), (ji4), (by first | rfl | (simp; done) | (simp [*]; done)), (by first | rfl | (simp; done) | (simp only [← hji4] <;> (first | rfl | simp)) | (simp [*]; done)), H', ⟨by have := HK1.out; omega⟩, by repeat (first | exact Drawn0.refl _ | apply Drawn0.step)⟩
     ·rw [if_neg c6] at H
      exact absurd H (by simp)
    ·rw [if_neg c5] at H
     exact absurd H (by simp)
   ·rw [if_neg c3] at H
    have c3b0 : decide (x7_1 < x8_1) = false := decide_eq_false c3
    clear c3
    by_cases c9 : x7_1 < (l0.length : Int)
    ·rw [if_pos c9] at H
     have c9b0 : decide (x7_1 < (l0.length : Int)) = true := decide_eq_true c9
     clear c9
     by_cases c10 : 0 ≤ x7_1
     ·rw [if_pos c10] at H
      have c10b0 : decide (0 ≤ x7_1) = true := decide_eq_true c10
      clear c10
      by_cases c11 : x7_1 < (l0.length : Int)
      ·rw [if_pos c11] at H
       have c11b0 : decide (x7_1 < (l0.length : Int)) = true := decide_eq_true c11
       clear c11
       by_cases c12 : (rd l0 x7_1) = a1
       ·rw [if_pos c12] at H
        have c12b0 : ((rd l0 x7_1) == a1) = true := beq_iff_eq.mpr c12
        have c12b1 : ((rd l0 x7_1) != a1) = false := bne_eq_false_iff_eq.mpr c12
        clear c12
        simp only [Option.some.injEq, Prod.mk.injEq] at H
        obtain ⟨rfl, rfl⟩ := H
        have p181 : 0 ≤ (x7_1 : Int) := of_decide_eq_true (by first | (with_reducible assumption) | assumption)
        have q181 : x7_1 < (l0.length : Int) := of_decide_eq_true (by first | (with_reducible assumption) | assumption)
        obtain ⟨ad181, e181, hx181_0⟩ := Kd.at_int HR0.out x7_1 p181 q181
        cases e181
        replace p181 := eq_true p181
        replace q181 := eq_true q181
        go_wp2
        go_ret2
        exact ⟨by first | rfl | (simp; done) | (simp [*]; done), by repeat (first | exact Drawn0.refl _ | apply Drawn0.step)⟩
       ·rw [if_neg c12] at H
        have c12b0 : ((rd l0 x7_1) == a1) = false := beq_eq_false_iff_ne.mpr c12
        have c12b1 : ((rd l0 x7_1) != a1) = true := bne_iff_ne.mpr c12
        replace H := Option.bind_eq_some_iff.mp H
        obtain ⟨t183, A130, H⟩ := H
        replace H : (if t183 = true then ((slices_isNaN_int.f a1).bind fun t184 => (some (x7_1, t184))) else (some (x7_1, false))) = some (r1, r2) := H
        have A13 := Aside0.mk A130
        clear A130
        by_cases c14 : t183 = true
        ·subst c14
         have H1 : ((slices_isNaN_int.f a1).bind fun t184 => (some (x7_1, t184))) = some (r1, r2) := by rw [if_pos rfl] at H; exact H
         clear H
         have H := H1
         clear H1
         replace H := Option.bind_eq_some_iff.mp H
         obtain ⟨t184, A150, H⟩ := H
         replace H : (some (x7_1, t184)) = some (r1, r2) := H
         have A15 := Aside0.mk A150
         clear A150
         simp only [Option.some.injEq, Prod.mk.injEq] at H
         obtain ⟨rfl, rfl⟩ := H
         have p181 : 0 ≤ (x7_1 : Int) := of_decide_eq_true (by first | (with_reducible assumption) | assumption)
         have q181 : x7_1 < (l0.length : Int) := of_decide_eq_true (by first | (with_reducible assumption) | assumption)
         obtain ⟨ad181, e181, hx181_0⟩ := Kd.at_int HR0.out x7_1 p181 q181
         cases e181
         replace p181 := eq_true p181
         replace q181 := eq_true q181
         have p182 : 0 ≤ (x7_1 : Int) := of_decide_eq_true (by first | (with_reducible assumption) | assumption)
         have q182 : x7_1 < (l0.length : Int) := of_decide_eq_true (by first | (with_reducible assumption) | assumption)
         obtain ⟨ad182, e182, hx182_0⟩ := Kd.at_int HR0.out x7_1 p182 q182
         obtain rfl : ad181 = ad182 := (by injection e182)
         replace p182 := eq_true p182
         replace q182 := eq_true q182
         go_wp2_with (first | (go_at_call 100; (with_reducible refine (slices_isNaN_int.calls (rd l0 x7_1) true _ A13.out).mono ?_); rintro e w' ⟨rfl, ⟨nd, rfl⟩⟩) | (go_at_call 100; (with_reducible refine (slices_isNaN_int.calls a1 t184 _ A15.out).mono ?_); rintro e w' ⟨rfl, ⟨nd, rfl⟩⟩))
         go_ret2
         exact ⟨by first | rfl | (simp; done) | (simp [*]; done), by repeat (first | exact Drawn0.refl _ | apply Drawn0.step)⟩
        ·replace c14 := Bool.eq_false_iff.mpr c14
         subst c14
         have H1 : (some (x7_1, false)) = some (r1, r2) := by rw [if_neg (show ¬ (false = true) by decide)] at H; exact H
         clear H
         have H := H1
         clear H1
         simp only [Option.some.injEq, Prod.mk.injEq] at H
         obtain ⟨rfl, rfl⟩ := H
         have p181 : 0 ≤ (x7_1 : Int) := of_decide_eq_true (by first | (with_reducible assumption) | assumption)
         have q181 : x7_1 < (l0.length : Int) := of_decide_eq_true (by first | (with_reducible assumption) | assumption)
         obtain ⟨ad181, e181, hx181_0⟩ := Kd.at_int HR0.out x7_1 p181 q181
         cases e181
         replace p181 := eq_true p181
         replace q181 := eq_true q181
         have p182 : 0 ≤ (x7_1 : Int) := of_decide_eq_true (by first | (with_reducible assumption) | assumption)
         have q182 : x7_1 < (l0.length : Int) := of_decide_eq_true (by first | (with_reducible assumption) | assumption)
         obtain ⟨ad182, e182, hx182_0⟩ := Kd.at_int HR0.out x7_1 p182 q182
         obtain rfl : ad181 = ad182 := (by injection e182)
         replace p182 := eq_true p182
         replace q182 := eq_true q182
         go_wp2_with (first | (go_at_call 100; (with_reducible refine (slices_isNaN_int.calls (rd l0 x7_1) false _ A13.out).mono ?_); rintro e w' ⟨rfl, ⟨nd, rfl⟩⟩))
         go_ret2
         exact ⟨by first | rfl | (simp; done) | (simp [*]; done), by repeat (first | exact Drawn0.refl _ | apply Drawn0.step)⟩
      ·rw [if_neg c11] at H
       exact absurd H (by simp)
     ·rw [if_neg c10] at H
      exact absurd H (by simp)
    ·rw [if_neg c9] at H
     have c9b0 : decide (x7_1 < (l0.length : Int)) = false := decide_eq_false c9
     clear c9
     simp only [Option.some.injEq, Prod.mk.injEq] at H
     obtain ⟨rfl, rfl⟩ := H
     go_wp2
     go_ret2
     exact ⟨by first | rfl | (simp; done) | (simp [*]; done), by repeat (first | exact Drawn0.refl _ | apply Drawn0.step)⟩
end Go.Proofs.YtadepdeckapgcaaDoor.PWitnessTells
end

section
namespace Go.Proofs.YtadepdeckapgcaaDoor.PWitnessTells
open Go.RowKit Go.Proofs.YtadepdeckapgcaaDoorW.PrintWords Go.Proofs.YtadepdeckapgcaaDoorW.PrintLast Go.Proofs.YtadepdeckapgcaaDoorW.PrintMore
attribute [local go_sem] max2_int min2_int max_two min_two max_three min_three max_four min_four
set_option linter.unusedVariables false
set_option linter.unusedSimpArgs false
mutual
def logjamref02_Has.j0 : Nat → Int → Int → Bool → Option (Bool)
 | 0, _, _, _ => none
 | k + 1, x0, x1, x11 => if x11 = true then (some false) else (logjamref02_Has.l0 k x0 x1 0)
def logjamref02_Has.l0 : Nat → Int → Int → Int → Option (Bool)
 | 0, _, _, _ => none
 | k + 1, x0, x1, x5 => if x5 < x1 then (logjamref02_Has.l0 k (IntKind.u64.wrap (Int.tdiv x0 2)) x1 (wrap64 (x5 + 1))) else (some ((Int.tmod x0 2) == 1))
end
def logjamref02_Has.f (k : Nat) (a0 : Int) (a1 : Int) : Option (Bool) := if a1 < 0 then (logjamref02_Has.j0 k a0 a1 true) else (logjamref02_Has.j0 k a0 a1 (decide (a1 > 63)))
set_option maxHeartbeats 8000000 in
set_option maxRecDepth 100000 in
theorem logjamref02_Has.calls (k : Nat) (a0 : Int) (a1 : Int) (r : Bool) (w : World) (h : logjamref02_Has.f k a0 a1 = some r) :
  Calls Tryd.prog 29 #[.int .u64 a0, .int .i64 a1] w fun e w' => e = .returned (.bool r) ∧ Drawn0 w w' := by
 have H : (if a1 < 0 then (logjamref02_Has.j0 k a0 a1 true) else (logjamref02_Has.j0 k a0 a1 (decide (a1 > 63)))) = some r := h
 clear h
 have HC3 := Aside0.mk H
 clear H
 go_enter Tryd.func29, Tryd.ntmps29
 go_upto_region 1 with (fail)
 go_cut [11] (fun v11 wc => ∃ (kq : Nat) (x11_2 : Bool), v11 = .bool x11_2 ∧ Aside0 (logjamref02_Has.j0 kq a0 a1 x11_2 = some r) ∧ Aside0 (kq ≤ k) ∧ Drawn0 w wc)
 case first =>
  have H := HC3.out
  clear HC3
  by_cases c4 : a1 < 0
  ·rw [if_pos c4] at H
   have c4b0 : decide (a1 < 0) = true := decide_eq_true c4
   clear c4
   (first | rw [c4b0] | (simp only [i64_w, i32_w]; rw [c4b0]) | skip)
   have H' := Aside0.mk H
   clear H
   go_wp2
   go_meet
   case rel => exact ⟨_, (true), (by first | rfl | (simp; done) | (simp [*]; done)), H', ⟨by first | omega | exact Nat.le_refl _⟩, by repeat (first | exact Drawn0.refl _ | apply Drawn0.step)⟩
  ·rw [if_neg c4] at H
   have c4b0 : decide (a1 < 0) = false := decide_eq_false c4
   clear c4
   (first | rw [c4b0] | (simp only [i64_w, i32_w]; rw [c4b0]) | skip)
   have H' := Aside0.mk H
   clear H
   go_wp2
   go_meet
   case rel => exact ⟨_, (decide (a1 > 63)), (by first | rfl | (simp; done) | (simp [*]; done)), H', ⟨by first | omega | exact Nat.le_refl _⟩, by repeat (first | exact Drawn0.refl _ | apply Drawn0.step)⟩
 case rest =>
  clear HC3
  try clear c2
  try clear p2
  try clear c4
  try clear c4b0
  obtain ⟨kq, x11_2, rfl, HA, HJ2, ⟨mc2, rfl⟩⟩ := hcut
  cases kq with
  | zero => exact absurd HA.out (by simp [logjamref02_Has.j0])
  | succ kj2 =>
   have H := HA.out
   clear HA
   simp only [logjamref02_Has.j0] at H
   by_cases c5 : x11_2 = true
   ·subst c5
    have H1 : (some false) = some r := by rw [if_pos rfl] at H; exact H
    clear H
    have H := H1
    clear H1
    obtain rfl := Option.some.inj H
    go_wp2
    go_ret
    exact ⟨by first | rfl | (simp; done) | (simp [*]; done), by repeat (first | exact Drawn0.refl _ | apply Drawn0.step)⟩
   ·replace c5 := Bool.eq_false_iff.mpr c5
    subst c5
    have H1 : (logjamref02_Has.l0 kj2 a0 a1 0) = some r := by rw [if_neg (show ¬ (false = true) by decide)] at H; exact H
    clear H
    have H := H1
    clear H1
    have H' := Aside0.mk H
    clear H
    go_wp2
    go_loopg [0, 5] kj2 (fun kq v0 v5 w' => ∃ (x0_2 : Int) (x5_2 : Int), v0 = .int .u64 x0_2 ∧ v5 = .int .i64 x5_2 ∧ Aside0 (logjamref02_Has.l0 kq x0_2 a1 x5_2 = some r) ∧ Aside0 (kq ≤ kj2) ∧ Drawn0 w w')
    case atStart => exact ⟨(a0), (0), (by first | rfl | (simp; done) | (simp [*]; done)), (by first | rfl | (simp; done) | (simp [*]; done)), H', ⟨Nat.le_refl _⟩, by repeat (first | exact Drawn0.refl _ | apply Drawn0.step)⟩
    case round =>
     clear H'
     try clear c2
     try clear p2
     try clear c4
     try clear c4b0
     try clear c5
     try clear p2
     obtain ⟨x0_2, x5_2, rfl, rfl, HA, HK2, ⟨m2, rfl⟩⟩ := hrel
     cases gk with
     | zero => exact absurd HA.out (by simp [logjamref02_Has.l0])
     | succ k2 =>
      have H := HA.out
      clear HA
      simp only [logjamref02_Has.l0] at H
      by_cases c6 : x5_2 < a1
      ·rw [if_pos c6] at H
       have c6b0 : decide (x5_2 < a1) = true := decide_eq_true c6
       clear c6
       have H' := Aside0.mk H
       clear H
       go_wp2
       go_roundg k2
       case measure => have := HJ2.out; have := HK2.out; omega
       case rel => exact ⟨(IntKind.u64.wrap (Int.tdiv x0_2 2)), (wrap64 (x5_2 + 1)), (by first | rfl | (simp; done) | (simp [*]; done)), (by first | rfl | (simp; done) | (simp [*]; done)), H', ⟨by have := HJ2.out; have := HK2.out; omega⟩, by repeat (first | exact Drawn0.refl _ | apply Drawn0.step)⟩
      ·rw [if_neg c6] at H
       have c6b0 : decide (x5_2 < a1) = false := decide_eq_false c6
       clear c6
       obtain rfl := Option.some.inj H
       go_wp2
       go_ret
       exact ⟨by first | rfl | (simp; done) | (simp [*]; done), by repeat (first | exact Drawn0.refl _ | apply Drawn0.step)⟩
end Go.Proofs.YtadepdeckapgcaaDoor.PWitnessTells
end

section
namespace Go.Proofs.YtadepdeckapgcaaDoor
open Go.RowKit Go.Proofs.YtadepdeckapgcaaDoorW.PrintWords Go.Proofs.YtadepdeckapgcaaDoorW.PrintLast Go.Proofs.YtadepdeckapgcaaDoorW.PrintMore PWitnessTells
set_option linter.unusedSimpArgs false
set_option linter.unusedVariables false
abbrev NShare := S108
abbrev NTerm := S96
abbrev NNode := S92
def MX : Nat := 9223372036854775807
theorem drop_cons' {α : Type} (d : α) (l : List α) (k : Nat) (h : k < l.length) : l.drop k = l.getD k d :: l.drop (k + 1) := by
  rw [List.drop_eq_getElem_cons h]; congr 1; simp [h]
theorem wrap_succ (i : Nat) (n : Nat) (h : i < n) (hn : n ≤ MX) : wrap64 ((i : Int) + 1) = ((i + 1 : Nat) : Int) := by unfold wrap64; unfold MX at hn; omega
def unitsB (n : Int) : Bool := decide (1 ≤ n ∧ n ≤ 1000)
def termL : Int → Int → List NShare → Int
  | _, e, [] => e
  | last, e, s :: r => if s.f0 ≤ last ∨ 64 ≤ s.f0 then 2 else termL s.f0 (if unitsB s.f1 then e else 1) r
theorem termL_cons (last e : Int) (s : NShare) (r : List NShare) : termL last e (s :: r) = if s.f0 ≤ last ∨ 64 ≤ s.f0 then 2 else termL s.f0 (if unitsB s.f1 then e else 1) r := rfl
def termC (m : NTerm) : Int := if unitsB m.f0 then termL (-1) 0 m.f1 else 1
def termsC : List NTerm → Int
  | [] => 0
  | m :: r => if termC m = 0 then termsC r else termC m
theorem termsC_cons (m : NTerm) (r : List NTerm) : termsC (m :: r) = if termC m = 0 then termsC r else termC m := rfl
def waysC : List (List NTerm) → Int
  | [] => 0
  | w :: r => if 256 < w.length then 4 else if termsC w = 0 then waysC r else termsC w
theorem waysC_cons (w : List NTerm) (r : List (List NTerm)) : waysC (w :: r) = if 256 < w.length then 4 else if termsC w = 0 then waysC r else termsC w := rfl
def nodeC (x : NNode) : Int := if x.f0 then (if 4 < x.f1.length then 4 else waysC x.f1) else 2
def nodesC : List NNode → Int
  | [] => 0
  | x :: r => if nodeC x = 0 then nodesC r else nodeC x
theorem nodesC_cons (x : NNode) (r : List NNode) : nodesC (x :: r) = if nodeC x = 0 then nodesC r else nodeC x := rfl
def deadC : Int → List Int → Bool
  | _, [] => true
  | last, t :: r => if t ≤ last ∨ 64 ≤ t then false else deadC t r
theorem deadC_cons (last t : Int) (r : List Int) : deadC last (t :: r) = if t ≤ last ∨ 64 ≤ t then false else deadC t r := rfl
def chkR (time : Int) (d : List Int) (n : List NNode) : Int :=
  if time < 0 ∨ 1073741824 < time then 1 else if d.length ≠ n.length then 2 else if deadC (-1) d then nodesC n else 2
theorem units_f (n : Int) : report_units.f n = some (unitsB n) := by
  unfold report_units.f unitsB
  by_cases h : n ≥ 1
  · rw [if_pos h]; congr 1; rw [decide_eq_decide]; omega
  · rw [if_neg h, decide_eq_false (by omega)]
theorem ev_term_l0 (l : List NShare) (hl : l.length ≤ MX) : ∀ (d i : Nat) (last e : Int), i + d = l.length → Ev (fun k => report_term.l0 k last e l (l.length : Int) i) (termL last e (l.drop i)) := by
  intro d
  induction d with
  | zero =>
    intro i last e hi
    rw [List.drop_of_length_le (by omega)]
    exact Ev.step (f := fun _ => some e) (fun k => by simp only [report_term.l0]; rw [if_neg (by omega)]) (Ev.now _)
  | succ d ih =>
    intro i last e hi
    rw [drop_cons' z108 l i (by omega), termL_cons]
    have hw := wrap_succ i l.length (by omega) hl
    have hrd : rd_T108 l (i : Int) = l.getD i z108 := rfl
    have ih' := fun la e => ih (i + 1) la e (by omega)
    generalize hs : l.getD i z108 = s at *
    by_cases h1 : s.f0 ≤ last
    · rw [if_pos (.inl h1)]
      refine Ev.step (f := fun k => report_term.j1 k e l (l.length : Int) i true s.f0 s.f1) (fun k => by simp only [report_term.l0]; rw [if_pos (by omega), if_pos (by omega), if_pos (by omega), hrd, if_pos h1]) ?_
      exact Ev.step (f := fun _ => some 2) (fun k => by simp only [report_term.j1]; rfl) (Ev.now _)
    · refine Ev.step (f := fun k => report_term.j1 k e l (l.length : Int) i (decide (s.f0 ≥ 64)) s.f0 s.f1) (fun k => by simp only [report_term.l0]; rw [if_pos (by omega), if_pos (by omega), if_pos (by omega), hrd, if_neg h1]) ?_
      by_cases h2 : s.f0 ≥ 64
      · rw [if_pos (.inr h2), decide_eq_true h2]
        exact Ev.step (f := fun _ => some 2) (fun k => by simp only [report_term.j1]; rfl) (Ev.now _)
      · rw [if_neg (by omega), decide_eq_false h2]
        cases hu : unitsB s.f1
        · exact Ev.step (f := fun k => report_term.l0 k s.f0 1 l (l.length : Int) ((i + 1 : Nat) : Int)) (fun k => by simp only [report_term.j1, units_f, hu, hw]; simp) (ih' _ _)
        · exact Ev.step (f := fun k => report_term.l0 k s.f0 e l (l.length : Int) ((i + 1 : Nat) : Int)) (fun k => by simp only [report_term.j1, units_f, hu, hw]; simp) (ih' _ _)
theorem ev_term (m : NTerm) (hl : m.f1.length ≤ MX) : Ev (fun k => report_term.f k m.f0 m.f1) (termC m) := by
  unfold report_term.f termC
  rw [units_f]
  cases hu : unitsB m.f0
  · exact Ev.congr (f := fun _ => some 1) (fun k => by simp) (Ev.now _)
  · exact Ev.congr (f := fun k => report_term.l0 k (-1) 0 m.f1 (m.f1.length : Int) 0) (fun k => by simp) (ev_term_l0 m.f1 hl m.f1.length 0 (-1) 0 (by omega))
theorem ev_node_l1 (ws : List (List NTerm)) (n a : Int) (w : List NTerm) (hw : w.length ≤ MX) (hm : ∀ m ∈ w, m.f1.length ≤ MX) (r : Int) : ∀ (d i : Nat), i + d = w.length →
    (termsC (w.drop i) ≠ 0 → r = termsC (w.drop i)) → (termsC (w.drop i) = 0 → Ev (fun k => report_node.l0 k ws n (wrap64 (a + 1))) r) →
    Ev (fun k => report_node.l1 k ws n a w (w.length : Int) i) r := by
  intro d
  induction d with
  | zero =>
    intro i hi h1 h2
    rw [List.drop_of_length_le (by omega)] at h1 h2
    exact Ev.step (f := fun k => report_node.l0 k ws n (wrap64 (a + 1))) (fun k => by simp only [report_node.l1]; rw [if_neg (by omega)]) (h2 rfl)
  | succ d ih =>
    intro i hi h1 h2
    have hdr := drop_cons' z96 w i (by omega)
    rw [hdr, termsC_cons] at h1 h2
    have hwr := wrap_succ i w.length (by omega) hw
    have hrd : rd_T96 w (i : Int) = w.getD i z96 := rfl
    have hmem : w.getD i z96 ∈ w := by
      have : w.getD i z96 = w[i] := by simp [show i < w.length by omega]
      rw [this]; exact List.getElem_mem _
    have hme := ev_term _ (hm _ hmem)
    have ih' := ih (i + 1) (by omega)
    generalize w.getD i z96 = m at *
    by_cases ht : termC m = 0
    · rw [if_pos ht] at h1 h2
      rw [ht] at hme
      refine Ev.step (f := fun k => (report_term.f k m.f0 m.f1).bind fun t => if t = 0 then report_node.l1 k ws n a w (w.length : Int) ((i + 1 : Nat) : Int) else some t) (fun k => by simp only [report_node.l1]; rw [if_pos (by omega), if_pos (by omega), if_pos (by omega), hrd, hwr]) ?_
      refine Ev.bind hme ?_
      exact Ev.congr (f := fun k => report_node.l1 k ws n a w (w.length : Int) ((i + 1 : Nat) : Int)) (fun k => by simp) (ih' h1 h2)
    · rw [if_neg ht] at h1 h2
      refine Ev.step (f := fun k => (report_term.f k m.f0 m.f1).bind fun t => if t = 0 then report_node.l1 k ws n a w (w.length : Int) ((i + 1 : Nat) : Int) else some t) (fun k => by simp only [report_node.l1]; rw [if_pos (by omega), if_pos (by omega), if_pos (by omega), hrd, hwr]) ?_
      refine Ev.bind hme ?_
      rw [h1 ht]
      exact Ev.congr (f := fun _ => some (termC m)) (fun k => by simp [ht]) (Ev.now _)
theorem getD_mem {α : Type} (d : α) (l : List α) (i : Nat) (h : i < l.length) : l.getD i d ∈ l := by
  have : l.getD i d = l[i] := by simp [h]
  rw [this]; exact List.getElem_mem _
def Bw (w : List NTerm) : Prop := w.length ≤ MX ∧ ∀ m ∈ w, m.f1.length ≤ MX
def Bws (ws : List (List NTerm)) : Prop := ws.length ≤ MX ∧ ∀ w ∈ ws, Bw w
def Bns (n : List NNode) : Prop := n.length ≤ MX ∧ ∀ x ∈ n, Bws x.f1
theorem ev_node_l0 (ws : List (List NTerm)) (hb : Bws ws) : ∀ (d i : Nat), i + d = ws.length → Ev (fun k => report_node.l0 k ws (ws.length : Int) i) (waysC (ws.drop i)) := by
  intro d
  induction d with
  | zero =>
    intro i hi
    rw [List.drop_of_length_le (by omega)]
    exact Ev.step (f := fun _ => some 0) (fun k => by simp only [report_node.l0]; rw [if_neg (by omega)]) (Ev.now _)
  | succ d ih =>
    intro i hi
    rw [drop_cons' [] ws i (by omega), waysC_cons]
    have hwr := wrap_succ i ws.length (by omega) hb.1
    have hrd : rd_L5 ws (i : Int) = ws.getD i [] := rfl
    have hB := hb.2 _ (getD_mem [] ws i (by omega))
    have ih' := ih (i + 1) (by omega)
    generalize ws.getD i [] = w at *
    by_cases h : 256 < w.length
    · rw [if_pos h]
      exact Ev.step (f := fun _ => some 4) (fun k => by simp only [report_node.l0]; rw [if_pos (by omega), if_pos (by omega), if_pos (by omega), hrd, if_pos (by omega)]) (Ev.now _)
    · rw [if_neg h]
      refine Ev.step (f := fun k => report_node.l1 k ws (ws.length : Int) i w (w.length : Int) 0) (fun k => by simp only [report_node.l0]; rw [if_pos (by omega), if_pos (by omega), if_pos (by omega), hrd, if_neg (by omega)]) ?_
      refine ev_node_l1 ws _ i w hB.1 hB.2 _ w.length 0 (by omega) ?_ ?_
      · intro q; rw [List.drop_zero] at *; rw [if_neg q]
      · intro q; rw [List.drop_zero] at q; rw [if_pos q, hwr]; exact ih'
theorem ev_node (x : NNode) (hb : Bws x.f1) : Ev (fun k => report_node.f k x.f0 x.f1) (nodeC x) := by
  unfold report_node.f nodeC
  cases x.f0
  · exact Ev.congr (f := fun _ => some 2) (fun k => by simp) (Ev.now _)
  · by_cases h : 4 < x.f1.length
    · exact Ev.congr (f := fun _ => some 4) (fun k => by rw [if_pos rfl, if_pos (by omega)]) (by rw [if_pos rfl, if_pos h]; exact Ev.now _)
    · refine Ev.congr (f := fun k => report_node.l0 k x.f1 (x.f1.length : Int) 0) (fun k => by rw [if_pos rfl, if_neg (by omega)]) ?_
      rw [if_pos rfl, if_neg h]
      exact ev_node_l0 x.f1 hb x.f1.length 0 (by omega)
theorem ev_chk_l1 (n : List NNode) (hb : Bns n) : ∀ (d i : Nat), i + d = n.length → Ev (fun k => report_Check.l1 k n (n.length : Int) i) (nodesC (n.drop i)) := by
  intro d
  induction d with
  | zero =>
    intro i hi
    rw [List.drop_of_length_le (by omega)]
    exact Ev.step (f := fun _ => some 0) (fun k => by simp only [report_Check.l1]; rw [if_neg (by omega)]) (Ev.now _)
  | succ d ih =>
    intro i hi
    rw [drop_cons' z92 n i (by omega), nodesC_cons]
    have hwr := wrap_succ i n.length (by omega) hb.1
    have hrd : rd_T92 n (i : Int) = n.getD i z92 := rfl
    have hB := ev_node _ (hb.2 _ (getD_mem z92 n i (by omega)))
    have ih' := ih (i + 1) (by omega)
    generalize n.getD i z92 = x at *
    refine Ev.step (f := fun k => (report_node.f k x.f0 x.f1).bind fun t => if t = 0 then report_Check.l1 k n (n.length : Int) ((i + 1 : Nat) : Int) else some t) (fun k => by simp only [report_Check.l1]; rw [if_pos (by omega), if_pos (by omega), if_pos (by omega), hrd, hwr]) ?_
    refine Ev.bind hB ?_
    by_cases h : nodeC x = 0
    · exact Ev.congr (f := fun k => report_Check.l1 k n (n.length : Int) ((i + 1 : Nat) : Int)) (fun k => by simp [h]) (by rw [if_pos h]; exact ih')
    · exact Ev.congr (f := fun _ => some (nodeC x)) (fun k => by simp [h]) (by rw [if_neg h]; exact Ev.now _)
theorem ev_chk_l0 (time : Int) (dd : List Int) (hd : dd.length ≤ MX) (n : List NNode) (hb : Bns n) : ∀ (d i : Nat) (last : Int), i + d = dd.length → Ev (fun k => report_Check.l0 k last dd (dd.length : Int) i time dd n) (if deadC last (dd.drop i) then nodesC n else 2) := by
  intro d
  induction d with
  | zero =>
    intro i last hi
    rw [List.drop_of_length_le (by omega)]
    refine Ev.step (f := fun k => report_Check.l1 k n (n.length : Int) 0) (fun k => by simp only [report_Check.l0]; rw [if_neg (by omega)]) ?_
    exact ev_chk_l1 n hb n.length 0 (by omega)
  | succ d ih =>
    intro i last hi
    rw [drop_cons' 0 dd i (by omega), deadC_cons]
    have hwr := wrap_succ i dd.length (by omega) hd
    have hrd : rd dd (i : Int) = dd.getD i 0 := rfl
    have ih' := fun la => ih (i + 1) la (by omega)
    generalize dd.getD i 0 = t at *
    by_cases h1 : t ≤ last
    · rw [if_pos (show t ≤ last ∨ 64 ≤ t from .inl h1)]
      exact Ev.step (f := fun _ => some 2) (fun k => by simp only [report_Check.l0]; rw [if_pos (by omega), if_pos (by omega), if_pos (by omega), hrd, if_pos h1]) (Ev.now _)
    · by_cases h2 : t ≥ 64
      · rw [if_pos (show t ≤ last ∨ 64 ≤ t from .inr h2)]
        exact Ev.step (f := fun _ => some 2) (fun k => by simp only [report_Check.l0]; rw [if_pos (by omega), if_pos (by omega), if_pos (by omega), hrd, if_neg h1, if_pos h2]) (Ev.now _)
      · rw [if_neg (show ¬ (t ≤ last ∨ 64 ≤ t) by omega)]
        exact Ev.step (f := fun k => report_Check.l0 k t dd (dd.length : Int) ((i + 1 : Nat) : Int) time dd n) (fun k => by simp only [report_Check.l0]; rw [if_pos (by omega), if_pos (by omega), if_pos (by omega), hrd, if_neg h1, if_neg h2, hwr]) (ih' _)
theorem ev_chk (time : Int) (dd : List Int) (hd : dd.length ≤ MX) (n : List NNode) (hb : Bns n) : Ev (fun k => report_Check.f k time dd n) (chkR time dd n) := by
  unfold report_Check.f chkR
  by_cases h0 : time < 0
  · rw [if_pos (.inl h0)]
    refine Ev.congr (f := fun k => report_Check.j0 k true time dd n) (fun k => by rw [if_pos h0]) ?_
    exact Ev.step (f := fun _ => some 1) (fun k => by simp only [report_Check.j0]; rfl) (Ev.now _)
  · refine Ev.congr (f := fun k => report_Check.j0 k (decide (time > 1073741824)) time dd n) (fun k => by rw [if_neg h0]) ?_
    by_cases h1 : time > 1073741824
    · rw [if_pos (.inr h1), decide_eq_true h1]
      exact Ev.step (f := fun _ => some 1) (fun k => by simp only [report_Check.j0]; rfl) (Ev.now _)
    · rw [if_neg (by omega), decide_eq_false h1]
      by_cases h2 : dd.length = n.length
      · rw [if_neg (by omega)]
        exact Ev.step (f := fun k => report_Check.l0 k (-1) dd (dd.length : Int) 0 time dd n) (fun k => by simp only [report_Check.j0]; rw [if_neg (by simp), if_pos (by omega)]) (ev_chk_l0 time dd hd n hb dd.length 0 (-1) (by omega))
      · rw [if_pos h2]
        exact Ev.step (f := fun _ => some 2) (fun k => by simp only [report_Check.j0]; rw [if_neg (by simp), if_neg (by omega)]) (Ev.now _)
end Go.Proofs.YtadepdeckapgcaaDoor
end

section
namespace Go.Proofs.YtadepdeckapgcaaDoor
open Go.RowKit Go.Proofs.YtadepdeckapgcaaDoorW.PrintWords Go.Proofs.YtadepdeckapgcaaDoorW.PrintLast Go.Proofs.YtadepdeckapgcaaDoorW.PrintMore PWitnessTells
set_option linter.unusedSimpArgs false
set_option linter.unusedVariables false
theorem C_len {α : Type} {d : Kd α} {w : World} {A : Option Addr} {n : Nat} {xs : List α} (h : Kd.C d w A n xs) : xs.length = n ∧ n ≤ MX := ⟨h.1, h.2.1⟩
theorem C_each {α : Type} {d : Kd α} {w : World} {A : Option Addr} {n : Nat} {xs : List α} (h : Kd.C d w A n xs) (x : α) (hx : x ∈ xs) : ∃ c, d.K w x c := by
  obtain ⟨j, hj, rfl⟩ := List.getElem_of_mem hx
  obtain ⟨ad, _, hc⟩ := h.2.2 (by have := h.1; omega)
  obtain ⟨c, _, hK, _⟩ := hc j _ (List.getElem?_eq_getElem hj)
  exact ⟨c, hK⟩
theorem bw_of {w : World} {A : Option Addr} {n : Nat} {xs : List NTerm} (h : Kd.C k96 w A n xs) : Bw xs := by
  refine ⟨by have := C_len h; omega, fun m hm => ?_⟩
  obtain ⟨c, hK⟩ := C_each h m hm
  obtain ⟨A1, c1, _, _, hC⟩ := k96_open hK
  exact (C_len hC).2
theorem bws_of {w : World} {A : Option Addr} {n : Nat} {xs : List (List NTerm)} (h : Kd.C (Kd.slice 96 k96) w A n xs) : Bws xs := by
  refine ⟨by have := C_len h; omega, fun m hm => ?_⟩
  obtain ⟨c, A1, c1, _, _, hC⟩ := C_each h m hm
  exact bw_of hC
theorem bns_of {w : World} {A : Option Addr} {n : Nat} {xs : List NNode} (h : Kd.C k92 w A n xs) : Bns xs := by
  refine ⟨by have := C_len h; omega, fun m hm => ?_⟩
  obtain ⟨c, hK⟩ := C_each h m hm
  obtain ⟨A1, c1, _, _, hC⟩ := k92_open hK
  exact bws_of hC
structure RepAt (w : World) (v : Value) (time : Int) (d : List Int) (n : List NNode) : Prop where
  out : ∃ A1 c1 A2 c2, v = .agg #[.int .i64 time, .slice A1 d.length c1, .slice A2 n.length c2] ∧ Kd.C (Kd.int .i64) w A1 d.length d ∧ d.length ≤ c1 ∧ Kd.C k92 w A2 n.length n ∧ n.length ≤ c2
theorem RepAt.quiet {w w' : World} {v : Value} {time : Int} {d : List Int} {n : List NNode} (h : RepAt w v time d n) (q : Quiet w w') : RepAt w' v time d n := by
  obtain ⟨A1, c1, A2, c2, e, h1, h2, h3, h4⟩ := h.out
  exact ⟨A1, c1, A2, c2, e, Kd.C_below h1 q.bel, h2, Kd.C_below h3 q.bel, h4⟩
theorem wChk (w : World) (time : Int) (A1 : Option Addr) (c1 : Nat) (d : List Int) (A2 : Option Addr) (c2 : Nat) (n : List NNode) (h1 : Kd.C (Kd.int .i64) w A1 d.length d) (h2 : d.length ≤ c1) (h3 : Kd.C k92 w A2 n.length n) (h4 : n.length ≤ c2) :
    Calls Tryd.prog 40 #[.agg #[.int .i64 time, .slice A1 d.length c1, .slice A2 n.length c2]] w fun e w' => e = .returned (.int .i64 (chkR time d n)) ∧ Quiet w w' := by
  obtain ⟨k, hk⟩ := (ev_chk time d (C_len h1).2 n (bns_of h3)).rounds
  exact (report_Check.calls k time A1 c1 d A2 c2 n _ w h1 h2 h3 h4 hk).mono fun e w' ⟨he, hb⟩ => ⟨he, Quiet.of hb⟩
def ofL : Nat → List Int → Nat
  | s, [] => s
  | s, t :: r => ofL (withB s t) r
theorem ofL_cons (s : Nat) (t : Int) (r : List Int) : ofL s (t :: r) = ofL (withB s t) r := rfl
theorem withB_lt' (s : Nat) (hs : s < B64) (t : Int) : withB s t < B64 := by
  unfold withB
  split
  · rename_i h
    exact Nat.or_lt_two_pow (n := 64) hs (pow_lt t h)
  · exact hs
theorem ofL_lt (l : List Int) : ∀ s, s < B64 → ofL s l < B64 := by
  induction l with
  | nil => intro s h; exact h
  | cons t r ih => intro s h; rw [ofL_cons]; exact ih _ (withB_lt' s h t)
theorem at_ints {w : World} {A : Option Addr} {n : Nat} {xs : List Int} (h : Kd.C (Kd.int .i64) w A n xs) (i : Nat) (h1 : i < n) : ∃ ad, A = some ad ∧ w.cell? (ad.add i) = some (.int .i64 (xs.getD i 0)) := by
  obtain ⟨ad, c, e, _, hK, hc⟩ := ReadsRow.get_ h 0 (i : Int) (by omega) (by omega)
  obtain rfl := hK
  have := hc 0 _ rfl
  exact ⟨ad, e, by simpa [Kd.int, Kd.scalar] using this⟩
def OfRel (w : World) (l : List Int) (s i : Value) (wr : World) : Prop := ∃ (k x : Nat), k ≤ l.length ∧ i = .int .i64 k ∧ s = .int .u64 x ∧ x < B64 ∧ ofL x (l.drop k) = ofL 0 l ∧ w = wr
theorem wOf (w : World) (A : Option Addr) (c : Nat) (l : List Int) (hC : Kd.C (Kd.int .i64) w A l.length l) (hc : l.length ≤ c) :
    Calls Tryd.prog 57 #[.slice A l.length c] w fun e w' => e = .returned (.int .u64 (ofL 0 l : Nat)) ∧ w = w' := by
  have hm := hC.2.1
  have HC := Lib.hid hC; clear hC
  go_enter Tryd.func57, Tryd.ntmps57
  go_wp2
  go_loopw [3, 8] (fun s i wr => OfRel w l s i wr) (fun _ i _ => l.length - (intOf i).toNat)
  case atStart => exact ⟨0, 0, Nat.zero_le _, rfl, rfl, by decide, rfl, rfl⟩
  case round =>
    obtain ⟨k, x, hk, rfl, rfl, hxl, hx, rfl⟩ := hrel
    by_cases hlt : k < l.length
    · obtain ⟨ad, hA, h0⟩ := at_ints HC.out k hlt
      have hdr := drop_cons 0 l k hlt
      rw [hdr, ofL_cons] at hx
      generalize l.getD k 0 = t at *
      subst hA
      have HX := Lib.hid hx
      have E := Lib.hid (with_eq x hxl t)
      have hl2 := withB_lt' x hxl t
      clear hx hdr
      go_wp2_with (go_at_call 104; refine (wOne _ _).mono ?_; rintro e w' ⟨rfl, rfl⟩)
      go_roundw
      case rel => exact ⟨k + 1, withB x t, by omega, by go_num, by rw [E.out], hl2, HX.out, rfl⟩
      case measure => simp [intOf]; omega
    · have hx' : ofL 0 l = x := by rw [← hx, List.drop_of_length_le (by omega)]; rfl
      have HX := Lib.hid hx'
      clear hx hx'
      go_wp2
      go_ret
      rw [HX.out]
      exact ⟨rfl, rfl⟩
def wayOk (dead : Nat) (w : List NTerm) : Bool := decide (0 ≤ lacksL dead 0 w)
def nodesOk (dead : Nat) (n : List NNode) : Bool := n.all fun x => x.f1.all (wayOk dead)
def soundR (time : Int) (d : List Int) (n : List NNode) : Bool := decide (chkR time d n = 0) && nodesOk (ofL 0 d) n
def SdRel (w : World) (n : List NNode) (dead : Nat) (i : Value) (wr : World) : Prop := ∃ k : Nat, k ≤ n.length ∧ i = .int .i64 k ∧ nodesOk dead (n.drop k) = nodesOk dead n ∧ Quiet w wr
def SdRel2 (w : World) (ws : List (List NTerm)) (dead : Nat) (i : Value) (wr : World) : Prop := ∃ k : Nat, k ≤ ws.length ∧ i = .int .i64 k ∧ (ws.drop k).all (wayOk dead) = ws.all (wayOk dead) ∧ Quiet w wr
set_option maxRecDepth 100000 in
theorem wSound (w : World) (time : Int) (A1 : Option Addr) (c1 : Nat) (d : List Int) (A2 : Option Addr) (c2 : Nat) (n : List NNode) (h1 : Kd.C (Kd.int .i64) w A1 d.length d) (h2 : d.length ≤ c1) (h3 : Kd.C k92 w A2 n.length n) (h4 : n.length ≤ c2) :
    Calls Tryd.prog 17 #[.agg #[.int .i64 time, .slice A1 d.length c1, .slice A2 n.length c2]] w fun e w' => e = .returned (.bool (soundR time d n)) ∧ Quiet w w' := by
  have hm := h3.2.1
  have hbx : ∀ o, Quiet w (w.alloc o) := fun o => by (repeat (first | exact Fr.refl _ _ | assumption | (refine Fr.quiet ?_ (by assumption)) | refine Fr.quiet ?_ HF.out | refine Fr.quiet ?_ HF2.out | refine Fr.drew ?_ | refine Fr.drewN ?_ _ | refine Fr.alloc ?_ _ | refine Fr.setCell ?_ (.inr (by first | omega | (simp; done) | (simp; omega))) _))
  have CH := Lib.hid (fun o => wChk (w.alloc o) time A1 c1 d A2 c2 n (Kd.C_below h1 (hbx o).bel) h2 (Kd.C_below h3 (hbx o).bel) h4)
  have OF := Lib.hid (fun wz (q : Quiet w wz) => wOf wz A1 c1 d (Kd.C_below h1 q.bel) h2)
  have HN := Lib.hid h3
  clear h1 h3
  have hB : Hid (∀ wz, Quiet (w.alloc (.cells #[.int .i64 time, .slice A1 d.length c1, .slice A2 n.length c2] 25)) wz → wz.cell? ⟨w.heap.size, 1, none⟩ = some (.slice A1 d.length c1) ∧ wz.cell? ⟨w.heap.size, 2, none⟩ = some (.slice A2 n.length c2)) := by
    intro wz q
    exact ⟨q.cell (by simp) (fun x => x), q.cell (by simp) (fun x => x)⟩
  by_cases c0 : chkR time d n = 0
  · have E : Hid (soundR time d n = nodesOk (ofL 0 d) n) := by unfold Hid soundR; simp [c0]
    rw [c0] at CH
    have hdl := ofL_lt d 0 (by decide)
    generalize ofL 0 d = dead at *
    clear c0
    go_enter Tryd.func17, Tryd.ntmps17
    go_wp2_with fail
    refine (CH.out _).mono ?_
    rintro e w1 ⟨rfl, hq1⟩
    obtain ⟨x1, x2⟩ := hB.out w1 hq1
    have HQ1 := Lib.hid ((hbx _).quiet hq1)
    clear hq1
    go_wp2_with (go_at_call 57; refine (OF.out _ HQ1.out).mono ?_; rintro e w' ⟨rfl, rfl⟩)
    go_loopw [17] (fun i wr => SdRel w n dead i wr) (fun i _ => n.length - (intOf i).toNat)
    case atStart => exact ⟨0, Nat.zero_le _, rfl, rfl, HQ1.out⟩
    case round =>
      obtain ⟨k, hk, rfl, hx, hQ⟩ := hrel
      obtain ⟨wo, hwo⟩ : ∃ x, x = wr := ⟨_, rfl⟩
      subst hwo
      by_cases hlt : k < n.length
      · have hC' := Kd.C_below HN.out hQ.bel
        obtain ⟨ad, A3, c3, hA, y0, y1, hl3, hC3⟩ := at_T92 hC' k (by omega) (by omega)
        have hdr := drop_cons z92 n k hlt
        have hrd : rd_T92 n (k : Int) = n.getD k z92 := rfl
        rw [hrd] at y0 y1 hl3 hC3
        have hx' : (n.getD k z92).f1.all (wayOk dead) = true → nodesOk dead (n.drop (k + 1)) = nodesOk dead n := fun q => by rw [← hx, hdr]; unfold nodesOk; rw [List.all_cons, q, Bool.true_and]
        have hxf : (n.getD k z92).f1.all (wayOk dead) = false → nodesOk dead n = false := fun q => by rw [← hx, hdr]; unfold nodesOk; rw [List.all_cons, q, Bool.false_and]
        generalize n.getD k z92 = x at *
        obtain ⟨st, ws⟩ := x
        simp only [Int.toNat_natCast] at y0 y1 hl3 hC3 hx' hxf
        subst hA
        have hm3 := hC3.2.1
        have HX := Lib.hid hx'; have HXF := Lib.hid hxf; have HQ := Lib.hid hQ; have H3 := Lib.hid hC3
        clear hx hx' hxf hQ hC' hC3 hdr hrd x1 x2
        go_wp2
        go_loopw [24] (fun i wz => SdRel2 wo ws dead i wz) (fun i _ => ws.length - (intOf i).toNat)
        case atStart => exact ⟨0, Nat.zero_le _, rfl, rfl, by (repeat (first | exact Fr.refl _ _ | assumption | (refine Fr.quiet ?_ (by assumption)) | refine Fr.quiet ?_ HF.out | refine Fr.quiet ?_ HF2.out | refine Fr.drew ?_ | refine Fr.drewN ?_ _ | refine Fr.alloc ?_ _ | refine Fr.setCell ?_ (.inr (by first | omega | (simp; done) | (simp; omega))) _))⟩
        case round =>
          obtain ⟨j, hj, rfl, hy, hQ2⟩ := hrel
          by_cases hlj : j < ws.length
          · have hC4 := Kd.C_below H3.out hQ2.bel
            obtain ⟨ad4, A4, c4, hA4, z0, hl4, hC5⟩ := at_L5 hC4 j (by omega) (by omega)
            have hdr := drop_cons [] ws j hlj
            have hrd : rd_L5 ws (j : Int) = ws.getD j [] := rfl
            rw [hrd] at z0 hl4 hC5
            rw [hdr, List.all_cons] at hy
            simp only [Int.toNat_natCast] at z0
            generalize ws.getD j [] = way at *
            subst hA4
            have LK := Lib.hid (wLacks wr way A4 c4 hC5 hl4 dead hdl)
            have HQ2 := Lib.hid hQ2
            have hwok : wayOk dead way = decide (0 ≤ lacksL dead 0 way) := rfl
            generalize lacksL dead 0 way = r at *
            clear hC4 hC5 hQ2 hdr hrd
            by_cases hr : 0 ≤ r
            · rw [hwok, decide_eq_true hr, Bool.true_and] at hy
              have HY := Lib.hid hy
              have hr' : decide (r < 0) = false := decide_eq_false (by omega)
              clear hy hwok hr
              go_wp2_with (go_at_call 56; refine LK.out.mono ?_; rintro e w' ⟨rfl, hf⟩; have HF := Lib.hid hf; clear hf)
              go_roundw
              case rel => exact ⟨j + 1, by omega, by go_num, HY.out, HQ2.out.quiet HF.out⟩
              case measure => simp [intOf]; omega
            · rw [hwok, decide_eq_false hr, Bool.false_and] at hy
              have HY := Lib.hid (HXF.out hy.symm)
              have hr' : decide (r < 0) = true := decide_eq_true (by omega)
              clear hy hwok hr
              go_wp2_with (go_at_call 56; refine LK.out.mono ?_; rintro e w' ⟨rfl, hf⟩; have HF := Lib.hid hf; clear hf)
              go_ret
              rw [E.out, HY.out]
              exact ⟨rfl, (HQ.out.quiet (by have q := HQ2.out.quiet HF.out; first | exact q | exact (Fr.refl _ _).quiet q))⟩
          · have hy2 : ws.all (wayOk dead) = true := by rw [← hy, List.drop_of_length_le (by omega)]; rfl
            have HY := Lib.hid (HX.out hy2)
            have HQ2 := Lib.hid hQ2
            clear hy hy2 hQ2
            go_wp2
            go_roundw
            case rel => exact ⟨k + 1, by omega, by go_num, HY.out, HQ.out.quiet HQ2.out⟩
            case measure => simp [intOf]; omega
      · have hx2 : nodesOk dead n = true := by rw [← hx, List.drop_of_length_le (by omega)]; rfl
        have HX := Lib.hid hx2
        clear hx hx2
        go_wp2
        go_ret
        rw [E.out, HX.out]
        exact ⟨rfl, hQ⟩
  · have E : Hid (soundR time d n = false) := by unfold Hid soundR; simp [c0]
    have c1' : (chkR time d n != 0) = true := by simpa using c0
    clear c0
    go_enter Tryd.func17, Tryd.ntmps17
    go_wp2_with fail
    refine (CH.out _).mono ?_
    rintro e w1 ⟨rfl, hq1⟩
    have HQ1 := Lib.hid ((hbx _).quiet hq1)
    clear hq1
    go_wp2
    go_ret
    rw [E.out]
    exact ⟨rfl, HQ1.out⟩
end Go.Proofs.YtadepdeckapgcaaDoor
end

section
namespace Go.Proofs.YtadepdeckapgcaaDoor.PWitnessTells
open Go.RowKit Go.Proofs.YtadepdeckapgcaaDoorW.PrintWords Go.Proofs.YtadepdeckapgcaaDoorW.PrintLast Go.Proofs.YtadepdeckapgcaaDoorW.PrintMore
attribute [local go_sem] max2_int min2_int max_two min_two max_three min_three max_four min_four
set_option linter.unusedVariables false
set_option linter.unusedSimpArgs false
theorem eqA108 (d : Nat) (w : World) (x0 y0 : Int) (x1 y1 : Int) :
  (Op.equalIn (d + 2) 108 (.agg #[.int .i64 x0, .int .i64 x1]) (.agg #[.int .i64 y0, .int .i64 y1])).run Tryd.prog w = .ok (x0 == y0 && (x1 == y1)) w := by
 refine eqA_of Tryd.underlying108 (by kernel_rfl) ?_
 refine eqf_cons (by rfl) (by go_simp; rfl) (by go_simp; rfl) (by go_simp) ?_
 exact eqf_last (by rfl) (by go_simp; rfl) (by go_simp; rfl) (by go_simp)
end Go.Proofs.YtadepdeckapgcaaDoor.PWitnessTells
end

section
namespace Go.Proofs.YtadepdeckapgcaaDoor
open Go.RowKit Go.Proofs.YtadepdeckapgcaaDoorW.PrintWords Go.Proofs.YtadepdeckapgcaaDoorW.PrintLast Go.Proofs.YtadepdeckapgcaaDoorW.PrintMore PWitnessTells
set_option linter.unusedSimpArgs false
set_option linter.unusedVariables false
def eqL {α : Type} (p : α → α → Bool) : List α → List α → Bool
  | [], [] => true
  | a :: r, b :: s => p a b && eqL p r s
  | _, _ => false
theorem eqL_cons {α : Type} (p : α → α → Bool) (a b : α) (r s : List α) : eqL p (a :: r) (b :: s) = (p a b && eqL p r s) := rfl
theorem eqL_len {α : Type} (p : α → α → Bool) : ∀ a b : List α, a.length ≠ b.length → eqL p a b = false
  | [], [], h => absurd rfl h
  | a :: r, b :: s, h => by rw [eqL_cons, eqL_len p r s (by simpa using h), Bool.and_false]
  | [], _ :: _, _ => rfl
  | _ :: _, [], _ => rfl
def shE (a b : NShare) : Bool := a.f0 == b.f0 && a.f1 == b.f1
def tmE (a b : NTerm) : Bool := a.f0 == b.f0 && eqL shE a.f1 b.f1
def wyE (a b : List NTerm) : Bool := eqL tmE a b
def ndE (a b : NNode) : Bool := a.f0 == b.f0 && eqL wyE a.f1 b.f1
def EqRel {α : Type} (p : α → α → Bool) (w : World) (a b : List α) (i : Value) (wr : World) : Prop := ∃ k : Nat, k ≤ a.length ∧ i = .int .i64 k ∧ eqL p (a.drop k) (b.drop k) = eqL p a b ∧ Quiet w wr
set_option maxRecDepth 100000 in
theorem wEqualSh (w : World) (A : Option Addr) (c : Nat) (a : List NShare) (hA : Kd.C k108 w A a.length a) (hc : a.length ≤ c) (B : Option Addr) (cb : Nat) (b : List NShare) (hB : Kd.C k108 w B b.length b) (hcb : b.length ≤ cb) :
    Calls Tryd.prog 106 #[.slice A a.length c, .slice B b.length cb] w fun e w' => e = .returned (.bool (eqL shE a b)) ∧ Quiet w w' := by
  have hma := hA.2.1
  have hmb := hB.2.1
  by_cases hl : a.length = b.length
  · have HA := Lib.hid hA; have HB := Lib.hid hB; clear hA hB
    have hl' : ((a.length : Int) != (b.length : Int)) = false := by simp; omega
    have HL := Lib.hid hl
    clear hl
    go_enter Tryd.func106, Tryd.ntmps106
    go_wp2
    go_loopw [13] (fun i wr => EqRel shE w a b i wr) (fun i _ => a.length - (intOf i).toNat)
    case atStart => exact ⟨0, Nat.zero_le _, rfl, rfl, Fr.refl _ _⟩
    case round =>
      obtain ⟨k, hk, rfl, hx, hQ⟩ := hrel
      by_cases hlt : k < a.length
      · have hltb : k < b.length := by rw [← HL.out]; exact hlt
        obtain ⟨ad, eA, x0, x1⟩ := at_T108 (Kd.C_below HA.out hQ.bel) k (by omega) (by omega)
        obtain ⟨bd, eB, y0, y1⟩ := at_T108 (Kd.C_below HB.out hQ.bel) k (by omega) (by omega)
        rw [drop_cons z108 a k hlt, drop_cons z108 b k hltb, eqL_cons] at hx
        have r1 : rd_T108 a (k : Int) = a.getD k z108 := rfl
        have r2 : rd_T108 b (k : Int) = b.getD k z108 := rfl
        rw [r1] at x0 x1; rw [r2] at y0 y1
        generalize a.getD k z108 = s at *
        generalize b.getD k z108 = t at *
        obtain ⟨s0, s1⟩ := s
        obtain ⟨t0, t1⟩ := t
        simp only [Int.toNat_natCast] at x0 x1 y0 y1
        subst eA eB
        have hsE : shE ⟨s0, s1⟩ ⟨t0, t1⟩ = (s0 == t0 && s1 == t1) := rfl
        have HQ := Lib.hid hQ
        rw [hsE] at hx
        clear hQ r1 r2 hsE
        have he : ∀ w, (Op.equalIn 10000 108 (.agg #[.int .i64 s0, .int .i64 s1]) (.agg #[.int .i64 t0, .int .i64 t1])).run Tryd.prog w = .ok (s0 == t0 && s1 == t1) w := fun w => eqA108 9998 w s0 t0 s1 t1
        generalize (s0 == t0 && s1 == t1) = r at *
        have i0 : (0 : Int) ≤ (k : Int) := by omega
        have i1 : (k : Int) < (a.length : Int) := by omega
        have i2 : (k : Int) < (b.length : Int) := by omega
        cases r
        · rw [Bool.false_and] at hx
          have HX := Lib.hid hx
          clear hx
          go_wp2_with fail
          go_quiet (fail)
          go_wp2
          go_ret
          rw [← HX.out]
          exact ⟨rfl, HQ.out.drewN _⟩
        · rw [Bool.true_and] at hx
          have HX := Lib.hid hx
          clear hx
          go_wp2_with fail
          go_quiet (fail)
          go_wp2
          go_roundw
          case rel => exact ⟨k + 1, by omega, by go_num, HX.out, HQ.out.drewN _⟩
          case measure => simp [intOf]; omega
      · have hx2 : eqL shE a b = true := by rw [← hx, List.drop_of_length_le (by omega), List.drop_of_length_le (by have := HL.out; omega)]; rfl
        have HX := Lib.hid hx2
        clear hx hx2
        go_wp2
        go_ret
        rw [HX.out]
        exact ⟨rfl, hQ⟩
  · have E : Hid (eqL shE a b = false) := eqL_len _ _ _ hl
    have hl' : ((a.length : Int) != (b.length : Int)) = true := by simp; omega
    clear hA hB hl
    go_enter Tryd.func106, Tryd.ntmps106
    go_wp2
    go_ret
    rw [E.out]
    exact ⟨rfl, Fr.refl _ _⟩
theorem wSame1 (w : World) (a b : NTerm) (A : Option Addr) (c : Nat) (hA : Kd.C k108 w A a.f1.length a.f1) (hc : a.f1.length ≤ c) (B : Option Addr) (cb : Nat) (hB : Kd.C k108 w B b.f1.length b.f1) (hcb : b.f1.length ≤ cb) :
    Calls Tryd.prog 105 #[.agg #[.int .i64 a.f0, .slice A a.f1.length c], .agg #[.int .i64 b.f0, .slice B b.f1.length cb]] w fun e w' => e = .returned (.bool (tmE a b)) ∧ Quiet w w' := by
  have EQ := Lib.hid (fun wz (q : Quiet w wz) => wEqualSh wz A c a.f1 (Kd.C_below hA q.bel) hc B cb b.f1 (Kd.C_below hB q.bel) hcb)
  have hE : Hid (tmE a b = (a.f0 == b.f0 && eqL shE a.f1 b.f1)) := rfl
  generalize eqL shE a.f1 b.f1 = r at *
  clear hA hB
  cases e0 : (a.f0 == b.f0)
  · have HX : Hid (tmE a b = false) := by unfold Hid; rw [hE.out, e0]; rfl
    go_enter Tryd.func105, Tryd.ntmps105
    go_wp2
    go_ret
    rw [HX.out]
    exact ⟨rfl, by (repeat (first | exact Fr.refl _ _ | assumption | (refine Fr.quiet ?_ (by assumption)) | refine Fr.quiet ?_ HF.out | refine Fr.quiet ?_ HF2.out | refine Fr.drew ?_ | refine Fr.drewN ?_ _ | refine Fr.alloc ?_ _ | refine Fr.setCell ?_ (.inr (by first | omega | (simp; done) | (simp; omega))) _))⟩
  · have HX : Hid (tmE a b = r) := by unfold Hid; rw [hE.out, e0]; rfl
    go_enter Tryd.func105, Tryd.ntmps105
    go_wp2_with (go_at_call 106; refine (EQ.out _ (by (repeat (first | exact Fr.refl _ _ | assumption | (refine Fr.quiet ?_ (by assumption)) | refine Fr.quiet ?_ HF.out | refine Fr.quiet ?_ HF2.out | refine Fr.drew ?_ | refine Fr.drewN ?_ _ | refine Fr.alloc ?_ _ | refine Fr.setCell ?_ (.inr (by first | omega | (simp; done) | (simp; omega))) _)))).mono ?_; rintro e w' ⟨rfl, hf⟩; have HF := Lib.hid hf; clear hf)
    go_ret
    rw [HX.out]
    exact ⟨rfl, by have q := HF.out; (repeat (first | exact Fr.refl _ _ | assumption | (refine Fr.quiet ?_ (by assumption)) | refine Fr.quiet ?_ HF.out | refine Fr.quiet ?_ HF2.out | refine Fr.drew ?_ | refine Fr.drewN ?_ _ | refine Fr.alloc ?_ _ | refine Fr.setCell ?_ (.inr (by first | omega | (simp; done) | (simp; omega))) _))⟩
set_option maxRecDepth 100000 in
theorem wEqF1 (w : World) (A : Option Addr) (c : Nat) (a : List NTerm) (hA : Kd.C k96 w A a.length a) (hc : a.length ≤ c) (B : Option Addr) (cb : Nat) (b : List NTerm) (hB : Kd.C k96 w B b.length b) (hcb : b.length ≤ cb) :
    Calls Tryd.prog 108 #[.slice A a.length c, .slice B b.length cb, .func (.func 105) #[] #[]] w fun e w' => e = .returned (.bool (wyE a b)) ∧ Quiet w w' := by
  have hma := hA.2.1
  have hmb := hB.2.1
  have eg : ∀ args w, (callFunc 105 args).run Tryd.prog w = .ok (.enter 105 args) w := enters_of Tryd.func105 (by kernel_rfl) rfl
  unfold wyE
  by_cases hl : a.length = b.length
  · have HA := Lib.hid hA; have HB := Lib.hid hB; clear hA hB
    have hl' : ((a.length : Int) != (b.length : Int)) = false := by simp; omega
    have HL := Lib.hid hl
    clear hl
    go_enter Tryd.func108, Tryd.ntmps108
    go_wp2
    go_loopw [17] (fun i wr => EqRel tmE w a b i wr) (fun i _ => a.length - (intOf i).toNat)
    case atStart => exact ⟨0, Nat.zero_le _, rfl, rfl, Fr.refl _ _⟩
    case round =>
      obtain ⟨k, hk, rfl, hx, hQ⟩ := hrel
      by_cases hlt : k < a.length
      · have hltb : k < b.length := by rw [← HL.out]; exact hlt
        obtain ⟨ad, A1, c1, eA, x0, x1, l1, g1⟩ := at_T96 (Kd.C_below HA.out hQ.bel) k (by omega) (by omega)
        obtain ⟨bd, B1, d1, eB, y0, y1, l2, g2⟩ := at_T96 (Kd.C_below HB.out hQ.bel) k (by omega) (by omega)
        rw [drop_cons z96 a k hlt, drop_cons z96 b k hltb, eqL_cons] at hx
        have r1 : rd_T96 a (k : Int) = a.getD k z96 := rfl
        have r2 : rd_T96 b (k : Int) = b.getD k z96 := rfl
        rw [r1] at x0 x1 l1 g1; rw [r2] at y0 y1 l2 g2
        generalize a.getD k z96 = s at *
        generalize b.getD k z96 = t at *
        simp only [Int.toNat_natCast] at x0 x1 y0 y1
        subst eA eB
        have S1 := Lib.hid (fun wz (q : Quiet wr wz) => wSame1 wz s t A1 c1 (Kd.C_below g1 q.bel) l1 B1 d1 (Kd.C_below g2 q.bel) l2)
        have HQ := Lib.hid hQ
        generalize tmE s t = r at *
        have ad1 := World.block_lt_of_cell? _ _ x0
        have bd1 := World.block_lt_of_cell? _ _ y0
        clear hQ r1 r2 g1 g2
        cases r
        · rw [Bool.false_and] at hx
          have HX := Lib.hid hx
          clear hx
          go_wp2_with (go_at_call 105; refine (S1.out _ (by (repeat (first | exact Fr.refl _ _ | assumption | (refine Fr.quiet ?_ (by assumption)) | refine Fr.quiet ?_ HF.out | refine Fr.quiet ?_ HF2.out | refine Fr.drew ?_ | refine Fr.drewN ?_ _ | refine Fr.alloc ?_ _ | refine Fr.setCell ?_ (.inr (by first | omega | (simp; done) | (simp; omega))) _)))).mono ?_; rintro e w' ⟨rfl, hf⟩; have HF := Lib.hid hf; clear hf)
          go_ret
          rw [← HX.out]
          exact ⟨rfl, HQ.out.quiet (by have q := HF.out; (repeat (first | exact Fr.refl _ _ | assumption | (refine Fr.quiet ?_ (by assumption)) | refine Fr.quiet ?_ HF.out | refine Fr.quiet ?_ HF2.out | refine Fr.drew ?_ | refine Fr.drewN ?_ _ | refine Fr.alloc ?_ _ | refine Fr.setCell ?_ (.inr (by first | omega | (simp; done) | (simp; omega))) _)))⟩
        · rw [Bool.true_and] at hx
          have HX := Lib.hid hx
          clear hx
          go_wp2_with (go_at_call 105; refine (S1.out _ (by (repeat (first | exact Fr.refl _ _ | assumption | (refine Fr.quiet ?_ (by assumption)) | refine Fr.quiet ?_ HF.out | refine Fr.quiet ?_ HF2.out | refine Fr.drew ?_ | refine Fr.drewN ?_ _ | refine Fr.alloc ?_ _ | refine Fr.setCell ?_ (.inr (by first | omega | (simp; done) | (simp; omega))) _)))).mono ?_; rintro e w' ⟨rfl, hf⟩; have HF := Lib.hid hf; clear hf)
          go_roundw
          case rel => exact ⟨k + 1, by omega, by go_num, HX.out, HQ.out.quiet (by have q := HF.out; (repeat (first | exact Fr.refl _ _ | assumption | (refine Fr.quiet ?_ (by assumption)) | refine Fr.quiet ?_ HF.out | refine Fr.quiet ?_ HF2.out | refine Fr.drew ?_ | refine Fr.drewN ?_ _ | refine Fr.alloc ?_ _ | refine Fr.setCell ?_ (.inr (by first | omega | (simp; done) | (simp; omega))) _)))⟩
          case measure => simp [intOf]; omega
      · have hx2 : eqL tmE a b = true := by rw [← hx, List.drop_of_length_le (by omega), List.drop_of_length_le (by have := HL.out; omega)]; rfl
        have HX := Lib.hid hx2
        clear hx hx2
        go_wp2
        go_ret
        rw [HX.out]
        exact ⟨rfl, hQ⟩
  · have E : Hid (eqL tmE a b = false) := eqL_len _ _ _ hl
    have hl' : ((a.length : Int) != (b.length : Int)) = true := by simp; omega
    clear hA hB hl
    go_enter Tryd.func108, Tryd.ntmps108
    go_wp2
    go_ret
    rw [E.out]
    exact ⟨rfl, Fr.refl _ _⟩
end Go.Proofs.YtadepdeckapgcaaDoor
end

section
namespace Go.Proofs.YtadepdeckapgcaaDoor
open Go.RowKit Go.Proofs.YtadepdeckapgcaaDoorW.PrintWords Go.Proofs.YtadepdeckapgcaaDoorW.PrintLast Go.Proofs.YtadepdeckapgcaaDoorW.PrintMore PWitnessTells
set_option linter.unusedSimpArgs false
set_option linter.unusedVariables false
theorem wSame2 (w : World) (A : Option Addr) (c : Nat) (a : List NTerm) (hA : Kd.C k96 w A a.length a) (hc : a.length ≤ c) (B : Option Addr) (cb : Nat) (b : List NTerm) (hB : Kd.C k96 w B b.length b) (hcb : b.length ≤ cb)
    (g : Nat) (hcell : w.cell? ⟨g, 0, none⟩ = some (.func (.func 105) #[] #[])) :
    Calls Tryd.prog 107 #[.slice A a.length c, .slice B b.length cb, .pointer (some ⟨g, 0, none⟩)] w fun e w' => e = .returned (.bool (wyE a b)) ∧ Quiet w w' := by
  have EQ := Lib.hid (wEqF1 w A c a hA hc B cb b hB hcb)
  clear hA hB
  go_enter Tryd.func107, Tryd.ntmps107
  go_wp2_with (go_at_call 108; refine EQ.out.mono ?_; rintro e w' ⟨rfl, hf⟩; have HF := Lib.hid hf; clear hf)
  go_ret
  exact ⟨rfl, HF.out⟩
set_option maxRecDepth 100000 in
theorem wEqF2 (w : World) (A : Option Addr) (c : Nat) (a : List (List NTerm)) (hA : Kd.C (Kd.slice 96 k96) w A a.length a) (hc : a.length ≤ c) (B : Option Addr) (cb : Nat) (b : List (List NTerm)) (hB : Kd.C (Kd.slice 96 k96) w B b.length b) (hcb : b.length ≤ cb)
    (g : Nat) (hcell : w.cell? ⟨g, 0, none⟩ = some (.func (.func 105) #[] #[])) :
    Calls Tryd.prog 109 #[.slice A a.length c, .slice B b.length cb, .func (.func 107) #[] #[.pointer (some ⟨g, 0, none⟩)]] w fun e w' => e = .returned (.bool (eqL wyE a b)) ∧ Quiet w w' := by
  have hma := hA.2.1
  have hmb := hB.2.1
  have eg : ∀ args w, (callFunc 107 args).run Tryd.prog w = .ok (.enter 107 args) w := enters_of Tryd.func107 (by kernel_rfl) rfl
  by_cases hl : a.length = b.length
  · have HA := Lib.hid hA; have HB := Lib.hid hB; clear hA hB
    have hl' : ((a.length : Int) != (b.length : Int)) = false := by simp; omega
    have HL := Lib.hid hl
    have HCL := Lib.hid hcell
    clear hl hcell
    go_enter Tryd.func109, Tryd.ntmps109
    go_wp2
    go_loopw [17] (fun i wr => EqRel wyE w a b i wr) (fun i _ => a.length - (intOf i).toNat)
    case atStart => exact ⟨0, Nat.zero_le _, rfl, rfl, Fr.refl _ _⟩
    case round =>
      obtain ⟨k, hk, rfl, hx, hQ⟩ := hrel
      by_cases hlt : k < a.length
      · have hltb : k < b.length := by rw [← HL.out]; exact hlt
        obtain ⟨ad, A1, c1, eA, x0, l1, g1⟩ := at_L5 (Kd.C_below HA.out hQ.bel) k (by omega) (by omega)
        obtain ⟨bd, B1, d1, eB, y0, l2, g2⟩ := at_L5 (Kd.C_below HB.out hQ.bel) k (by omega) (by omega)
        rw [drop_cons [] a k hlt, drop_cons [] b k hltb, eqL_cons] at hx
        have r1 : rd_L5 a (k : Int) = a.getD k [] := rfl
        have r2 : rd_L5 b (k : Int) = b.getD k [] := rfl
        rw [r1] at x0 l1 g1; rw [r2] at y0 l2 g2
        generalize a.getD k [] = s at *
        generalize b.getD k [] = t at *
        simp only [Int.toNat_natCast] at x0 y0
        subst eA eB
        have S1 := Lib.hid (wSame2 wr A1 c1 s g1 l1 B1 d1 t g2 l2 g (hQ.cell HCL.out (fun x => x)))
        have HQ := Lib.hid hQ
        generalize wyE s t = r at *
        clear hQ r1 r2 g1 g2
        cases r
        · rw [Bool.false_and] at hx
          have HX := Lib.hid hx
          clear hx
          go_wp2_with (go_at_call 107; refine S1.out.mono ?_; rintro e w' ⟨rfl, hf⟩; have HF := Lib.hid hf; clear hf)
          go_ret
          rw [← HX.out]
          exact ⟨rfl, HQ.out.quiet HF.out⟩
        · rw [Bool.true_and] at hx
          have HX := Lib.hid hx
          clear hx
          go_wp2_with (go_at_call 107; refine S1.out.mono ?_; rintro e w' ⟨rfl, hf⟩; have HF := Lib.hid hf; clear hf)
          go_roundw
          case rel => exact ⟨k + 1, by omega, by go_num, HX.out, HQ.out.quiet HF.out⟩
          case measure => simp [intOf]; omega
      · have hx2 : eqL wyE a b = true := by rw [← hx, List.drop_of_length_le (by omega), List.drop_of_length_le (by have := HL.out; omega)]; rfl
        have HX := Lib.hid hx2
        clear hx hx2
        go_wp2
        go_ret
        rw [HX.out]
        exact ⟨rfl, hQ⟩
  · have E : Hid (eqL wyE a b = false) := eqL_len _ _ _ hl
    have hl' : ((a.length : Int) != (b.length : Int)) = true := by simp; omega
    clear hA hB hl
    go_enter Tryd.func109, Tryd.ntmps109
    go_wp2
    go_ret
    rw [E.out]
    exact ⟨rfl, Fr.refl _ _⟩
theorem wSame (w : World) (a b : NNode) (A : Option Addr) (c : Nat) (hA : Kd.C (Kd.slice 96 k96) w A a.f1.length a.f1) (hc : a.f1.length ≤ c) (B : Option Addr) (cb : Nat) (hB : Kd.C (Kd.slice 96 k96) w B b.f1.length b.f1) (hcb : b.f1.length ≤ cb) :
    Calls Tryd.prog 60 #[.agg #[.bool a.f0, .slice A a.f1.length c], .agg #[.bool b.f0, .slice B b.f1.length cb]] w fun e w' => e = .returned (.bool (ndE a b)) ∧ Quiet w w' := by
  have EQ := Lib.hid (fun wz (q : Quiet w wz) g hg => wEqF2 wz A c a.f1 (Kd.C_below hA q.bel) hc B cb b.f1 (Kd.C_below hB q.bel) hcb g hg)
  have hE : Hid (ndE a b = (a.f0 == b.f0 && eqL wyE a.f1 b.f1)) := rfl
  generalize eqL wyE a.f1 b.f1 = r at *
  clear hA hB
  cases e0 : (a.f0 == b.f0)
  · have HX : Hid (ndE a b = false) := by unfold Hid; rw [hE.out, e0]; rfl
    go_enter Tryd.func60, Tryd.ntmps60
    go_wp2
    go_ret
    rw [HX.out]
    exact ⟨rfl, by (repeat (first | exact Fr.refl _ _ | assumption | (refine Fr.quiet ?_ (by assumption)) | refine Fr.quiet ?_ HF.out | refine Fr.quiet ?_ HF2.out | refine Fr.drew ?_ | refine Fr.drewN ?_ _ | refine Fr.alloc ?_ _ | refine Fr.setCell ?_ (.inr (by first | omega | (simp; done) | (simp; omega))) _))⟩
  · have HX : Hid (ndE a b = r) := by unfold Hid; rw [hE.out, e0]; rfl
    go_enter Tryd.func60, Tryd.ntmps60
    go_wp2_with (go_at_call 109; refine (EQ.out _ (by (repeat (first | exact Fr.refl _ _ | assumption | (refine Fr.quiet ?_ (by assumption)) | refine Fr.quiet ?_ HF.out | refine Fr.quiet ?_ HF2.out | refine Fr.drew ?_ | refine Fr.drewN ?_ _ | refine Fr.alloc ?_ _ | refine Fr.setCell ?_ (.inr (by first | omega | (simp; done) | (simp; omega))) _))) _ (by go_simp)).mono ?_; rintro e w' ⟨rfl, hf⟩; have HF := Lib.hid hf; clear hf)
    go_ret
    rw [HX.out]
    exact ⟨rfl, by have q := HF.out; (repeat (first | exact Fr.refl _ _ | assumption | (refine Fr.quiet ?_ (by assumption)) | refine Fr.quiet ?_ HF.out | refine Fr.quiet ?_ HF2.out | refine Fr.drew ?_ | refine Fr.drewN ?_ _ | refine Fr.alloc ?_ _ | refine Fr.setCell ?_ (.inr (by first | omega | (simp; done) | (simp; omega))) _))⟩
def matchL (l : List NNode) : List Int → List NNode → Bool
  | t :: r, x :: s => decide (t < l.length) && ndE x (l.getD t.toNat z92) && matchL l r s
  | _, _ => true
theorem matchL_cons (l : List NNode) (t : Int) (r : List Int) (x : NNode) (s : List NNode) : matchL l (t :: r) (x :: s) = (decide (t < l.length) && ndE x (l.getD t.toNat z92) && matchL l r s) := rfl
def matchR (time : Int) (d : List Int) (n l : List NNode) : Bool := decide (chkR time d n = 0) && matchL l d n
theorem Quiet.cellA {w w' : World} (h : Quiet w w') {a : Addr} {v : Value} (hc : w.cell? a = some v) : w'.cell? a = some v := pw_cell_below h.bel hc
theorem deadC_range : ∀ (l : List Int) (last : Int), -1 ≤ last → deadC last l = true → ∀ t ∈ l, 0 ≤ t ∧ t ≤ 63
  | [], _, _, _, t, ht => by cases ht
  | a :: r, last, hl, h, t, ht => by
    rw [deadC_cons] at h
    by_cases q : a ≤ last ∨ 64 ≤ a
    · rw [if_pos q] at h; cases h
    · rw [if_neg q] at h
      rcases List.mem_cons.1 ht with rfl | ht
      · omega
      · exact deadC_range r a (by omega) h t ht
theorem chkR_zero (time : Int) (d : List Int) (n : List NNode) (h : chkR time d n = 0) : d.length = n.length ∧ deadC (-1) d = true ∧ nodesC n = 0 := by
  unfold chkR at h
  split at h
  · simp at h
  · split at h
    · simp at h
    · rename_i h2
      split at h
      · exact ⟨by simpa using h2, by assumption, h⟩
      · simp at h
def MtRel (w : World) (l : List NNode) (d : List Int) (n : List NNode) (i : Value) (wr : World) : Prop := ∃ k : Nat, k ≤ d.length ∧ i = .int .i64 k ∧ matchL l (d.drop k) (n.drop k) = matchL l d n ∧ Quiet w wr
set_option maxRecDepth 100000 in
set_option maxHeartbeats 2000000 in
theorem wMatch (w : World) (time : Int) (A1 : Option Addr) (c1 : Nat) (d : List Int) (A2 : Option Addr) (c2 : Nat) (n : List NNode) (h1 : Kd.C (Kd.int .i64) w A1 d.length d) (h2 : d.length ≤ c1) (h3 : Kd.C k92 w A2 n.length n) (h4 : n.length ≤ c2)
    (A3 : Option Addr) (c3 : Nat) (l : List NNode) (h5 : Kd.C k92 w A3 l.length l) (h6 : l.length ≤ c3) :
    Calls Tryd.prog 19 #[.agg #[.int .i64 time, .slice A1 d.length c1, .slice A2 n.length c2], .slice A3 l.length c3] w fun e w' => e = .returned (.bool (matchR time d n l)) ∧ Quiet w w' := by
  have hm1 := h1.2.1
  have hm3 := h3.2.1
  have hm5 := h5.2.1
  have hbx : ∀ o, Quiet w (w.alloc o) := fun o => by (repeat (first | exact Fr.refl _ _ | assumption | (refine Fr.quiet ?_ (by assumption)) | refine Fr.quiet ?_ HF.out | refine Fr.quiet ?_ HF2.out | refine Fr.drew ?_ | refine Fr.drewN ?_ _ | refine Fr.alloc ?_ _ | refine Fr.setCell ?_ (.inr (by first | omega | (simp; done) | (simp; omega))) _))
  have CH := Lib.hid (fun o => wChk (w.alloc o) time A1 c1 d A2 c2 n (Kd.C_below h1 (hbx o).bel) h2 (Kd.C_below h3 (hbx o).bel) h4)
  have HD := Lib.hid h1; have HN := Lib.hid h3; have HL := Lib.hid h5
  clear h1 h3 h5
  have hB : Hid (∀ wz, Quiet (w.alloc (.cells #[.int .i64 time, .slice A1 d.length c1, .slice A2 n.length c2] 25)) wz → wz.cell? ⟨w.heap.size, 1, none⟩ = some (.slice A1 d.length c1) ∧ wz.cell? ⟨w.heap.size, 2, none⟩ = some (.slice A2 n.length c2)) := by
    intro wz q
    exact ⟨q.cell (by simp) (fun x => x), q.cell (by simp) (fun x => x)⟩
  by_cases c0 : chkR time d n = 0
  · have E : Hid (matchR time d n l = matchL l d n) := by unfold Hid matchR; simp [c0]
    obtain ⟨hlen, hdc, _⟩ := chkR_zero _ _ _ c0
    have HR := Lib.hid (deadC_range d (-1) (by omega) hdc)
    have HLn := Lib.hid hlen
    rw [c0] at CH
    clear c0 hlen hdc
    go_enter Tryd.func19, Tryd.ntmps19
    go_wp2_with fail
    refine (CH.out _).mono ?_
    rintro e w1 ⟨rfl, hq1⟩
    obtain ⟨x1, x2⟩ := hB.out w1 hq1
    have HQ1 := Lib.hid ((hbx _).quiet hq1)
    have HQ0 := Lib.hid hq1
    clear hq1
    go_wp2_with fail
    go_loopw [13] (fun i wr => MtRel w1 l d n i wr) (fun i _ => d.length - (intOf i).toNat)
    case atStart => exact ⟨0, Nat.zero_le _, rfl, rfl, Fr.refl _ _⟩
    case round =>
      obtain ⟨k, hk, rfl, hx, hQ⟩ := hrel
      by_cases hlt : k < d.length
      · have hltn : k < n.length := by rw [← HLn.out]; exact hlt
        have hQw : Quiet w wr := HQ1.out.quiet hQ
        obtain ⟨ad, eA, x0⟩ := at_ints (Kd.C_below HD.out hQw.bel) k hlt
        obtain ⟨bd, B1, d1, eB, y0, y1, l2, g2⟩ := at_T92 (Kd.C_below HN.out hQw.bel) k (by omega) (by omega)
        rw [drop_cons 0 d k hlt, drop_cons z92 n k hltn, matchL_cons] at hx
        have r2 : rd_T92 n (k : Int) = n.getD k z92 := rfl
        rw [r2] at y0 y1 l2 g2
        have hr := HR.out _ (getD_mem 0 d k hlt)
        generalize d.getD k 0 = t at *
        generalize n.getD k z92 = x at *
        simp only [Int.toNat_natCast] at y0 y1
        subst eA
        have x2' := hQ.cell x2 (fun x => x)
        have hk0 : (0 : Int) ≤ (k : Int) := by omega
        have hk1 : (k : Int) < (n.length : Int) := by omega
        have HQ := Lib.hid hQ
        have HQw := Lib.hid hQw
        clear hQ hQw r2 x1 x2
        by_cases ht : t < (l.length : Int)
        · obtain ⟨ld, L1, e1, eL, z0, z1, l3, g3⟩ := at_T92 (Kd.C_below HL.out HQw.out.bel) t hr.1 ht
          have r3 : rd_T92 l t = l.getD t.toNat z92 := rfl
          rw [r3] at z0 z1 l3 g3
          rw [decide_eq_true ht, Bool.true_and] at hx
          generalize l.getD t.toNat z92 = y at *
          subst eB eL
          have SM := Lib.hid (fun wz (q : Quiet wr wz) => wSame wz x y B1 d1 (Kd.C_below g2 q.bel) l2 L1 e1 (Kd.C_below g3 q.bel) l3)
          have ht' : decide ((l.length : Int) ≤ t) = false := decide_eq_false (by omega)
          have ht0 := hr.1
          clear r3 g2 g3 l2 l3
          generalize ndE x y = r at *
          have HX := Lib.hid hx
          have HS : Hid (∀ w', Quiet wr w' → w'.cell? ⟨w.heap.size, 2, none⟩ = some (.slice (some bd) n.length c2) ∧ w'.cell? (bd.add (k * 2)) = some (.bool x.f0) ∧ w'.cell? ⟨(bd.add (k * 2)).block, (bd.add (k * 2)).off + 1, none⟩ = some (.slice B1 x.f1.length d1) ∧ w'.cell? (ld.add (t.toNat * 2)) = some (.bool y.f0) ∧ w'.cell? ⟨(ld.add (t.toNat * 2)).block, (ld.add (t.toNat * 2)).off + 1, none⟩ = some (.slice L1 y.f1.length e1) ∧ Quiet wr w') :=
            fun w' q => ⟨q.cellA x2', q.cellA y0, q.cellA y1, q.cellA z0, q.cellA z1, q⟩
          clear hx x2' y0 y1 z0 z1
          go_wp2_with fail
          go_cut [34] (fun s wx => s = .bool (!r) ∧ Quiet wr wx)
          case first =>
            go_region_held3 (fun w' => w'.cell? ⟨w.heap.size, 2, none⟩ = some (.slice (some bd) n.length c2) ∧ w'.cell? (bd.add (k * 2)) = some (.bool x.f0) ∧ w'.cell? ⟨(bd.add (k * 2)).block, (bd.add (k * 2)).off + 1, none⟩ = some (.slice B1 x.f1.length d1) ∧ w'.cell? (ld.add (t.toNat * 2)) = some (.bool y.f0) ∧ w'.cell? ⟨(ld.add (t.toNat * 2)).block, (ld.add (t.toNat * 2)).off + 1, none⟩ = some (.slice L1 y.f1.length e1) ∧ Quiet wr w')
              (exact HS.out _ (by first | assumption | exact Fr.refl _ _ | exact (Fr.refl _ _).drew))
              (first | (go_at_call 60; refine (SM.out _ (by first | assumption | exact Fr.refl _ _ | exact (Fr.refl _ _).drew)).mono ?_; rintro e w' ⟨rfl, hf⟩; replace hf := hf.undrew))
            go_wp2_with fail
            go_meet
            exact ⟨rfl, hf⟩
          case rest =>
            obtain ⟨rfl, hf⟩ := hcut
            have HF := Lib.hid hf
            clear hf
            cases r
            · have HX2 : Hid (matchL l d n = false) := Lib.hid (by have := HX.out; simpa using this.symm)
              go_wp2
              go_ret
              rw [E.out, HX2.out]
              exact ⟨rfl, HQw.out.quiet HF.out⟩
            · have HX2 : Hid (matchL l (d.drop (k + 1)) (n.drop (k + 1)) = matchL l d n) := Lib.hid (by have := HX.out; simpa using this)
              go_wp2
              go_roundw
              case rel => exact ⟨k + 1, by omega, by go_num, HX2.out, HQ.out.quiet HF.out⟩
              case measure => simp [intOf]; omega
        · have HX2 : Hid (matchL l d n = false) := Lib.hid (by rw [decide_eq_false ht] at hx; simpa using hx.symm)
          have ht' : decide ((l.length : Int) ≤ t) = true := decide_eq_true (by omega)
          clear hx g2
          go_wp2_with fail
          go_quiet (fail)
          go_wp2
          go_ret
          rw [E.out, HX2.out]
          exact ⟨rfl, HQw.out.drewN _⟩
      · have hx2 : matchL l d n = true := by rw [← hx, List.drop_of_length_le (by omega), List.drop_of_length_le (by have := HLn.out; omega)]; rfl
        have HX := Lib.hid hx2
        clear hx hx2
        go_wp2
        go_ret
        rw [E.out, HX.out]
        exact ⟨rfl, HQ1.out.quiet hQ⟩
  · have E : Hid (matchR time d n l = false) := by unfold Hid matchR; simp [c0]
    have c1' : (chkR time d n != 0) = true := by simpa using c0
    clear c0
    go_enter Tryd.func19, Tryd.ntmps19
    go_wp2_with fail
    refine (CH.out _).mono ?_
    rintro e w1 ⟨rfl, hq1⟩
    have HQ1 := Lib.hid ((hbx _).quiet hq1)
    clear hq1
    go_wp2
    go_ret
    rw [E.out]
    exact ⟨rfl, HQ1.out⟩
end Go.Proofs.YtadepdeckapgcaaDoor
end

section
namespace Go.Proofs.YtadepdeckapgcaaDoor
open Go.RowKit Go.Proofs.YtadepdeckapgcaaDoorW.PrintWords Go.Proofs.YtadepdeckapgcaaDoorW.PrintLast Go.Proofs.YtadepdeckapgcaaDoorW.PrintMore PWitnessTells
set_option linter.unusedSimpArgs false
set_option linter.unusedVariables false
abbrev Any_ : Nat → Prop := fun _ => True
theorem M_off {α : Type} {d : Kd α} {w : World} {base : Nat} {p : α} {cs : List Value} (h : d.M w base Any_ p cs) {b e size n : Nat} {v : Value} {xs : List Value} (ho : w.ownsRow b e size v n xs) (ht : ∀ q, q ∈ d.E → q ≠ e) : d.M w base (fun k => Any_ k ∧ some k ≠ v.ownBlock) p cs := by
  cases hv : v.ownBlock with
  | none => exact d.M_mono (fun k _ => ⟨trivial, by simp⟩) h
  | some g =>
    obtain ⟨cells, hc⟩ := own_typed ho g hv
    exact d.M_mono (fun k hk => ⟨trivial, fun q => hk.2 (Option.some.inj q)⟩) (Kd.M_types h hc ht)
section
variable {P : Program} {ops : Array Oper} {rest : List Oper} {o : Oper} {a : Act} {Q : Exit → Act → World → Prop} {Kc : Act → World → Prop} {α : Type}
theorem rApp (d : Kd α) {w0 W : World} (base : Nat) (hgd : o.guard = none) (s x : Operand) (t e : TypeId) (z : Value) (bytes : Nat)
    (ho : o.op = .call { callee := .builtin .append, args := #[s, x], argTypes := #[t, t] })
    (ht : P.underlying t = some (.slice e)) (hinfo : (P.info? e).map (fun i => (i.zero, i.size, i.bytes)) = some (some z, d.sz, bytes)) (hz : z.cells.size = d.sz) (hs0 : 0 < d.sz) (hb0 : 0 < bytes)
    (v : Value) (xs : List α) (p : α) (cs : List Value) (hs : a.eval s = v) (hx : a.eval x = .slice (some ⟨W.heap.size, 0, none⟩) 1 1) (hp : d.M W base Any_ p cs) (hE : ∀ q, q ∈ d.E → q ≠ e)
    (HO : d.R e W base Any_ v xs) (HB : Below base w0 W) (hbase : base ≤ W.heap.size) (hl : (xs.length + 1) * bytes ≤ 140737488355328)
    (h : ∀ v1 w1, d.R e w1 base Any_ v1 (xs ++ [p]) → Below base w0 w1 → W.grownBy w1 v.ownBlock → (v1.ownBlock = v.ownBlock ∨ ∃ b, v1.ownBlock = some b ∧ W.heap.size ≤ b) → wpList P ops Q rest (a.put o.dst v1) w1) :
    wpList P ops Q (o :: rest) a (W.alloc (.cells cs.toArray e)) := by
  obtain ⟨inner, hown⟩ := Kd.R_own HO
  exact Kd.R_append d base hgd s x t e z bytes ho ht hinfo hz hs0 hb0 v xs p cs Any_ _ hs hx (M_off hp hown hE) (fun _ h => h) (fun _ _ => trivial) HO HB hbase hl h
theorem rAppStep (d : Kd α) {w0 W : World} (base : Nat) (hw : Region.wanted o (yielded ops a.tmps) = true) (s x : Operand) (t e : TypeId) (z : Value) (bytes : Nat)
    (ho : o.op = .call { callee := .builtin .append, args := #[s, x], argTypes := #[t, t] })
    (ht : P.underlying t = some (.slice e)) (hinfo : (P.info? e).map (fun i => (i.zero, i.size, i.bytes)) = some (some z, d.sz, bytes)) (hz : z.cells.size = d.sz) (hs0 : 0 < d.sz) (hb0 : 0 < bytes)
    (v : Value) (xs : List α) (p : α) (cs : List Value) (hs : a.eval s = v) (hx : a.eval x = .slice (some ⟨W.heap.size, 0, none⟩) 1 1) (hp : d.M W base Any_ p cs) (hE : ∀ q, q ∈ d.E → q ≠ e)
    (HO : d.R e W base Any_ v xs) (HB : Below base w0 W) (hbase : base ≤ W.heap.size) (hl : (xs.length + 1) * bytes ≤ 140737488355328)
    (h : ∀ v1 w1, d.R e w1 base Any_ v1 (xs ++ [p]) → Below base w0 w1 → W.grownBy w1 v.ownBlock → (v1.ownBlock = v.ownBlock ∨ ∃ b, v1.ownBlock = some b ∧ W.heap.size ≤ b) → Kc (a.put o.dst v1) w1) :
    if Region.wanted o (yielded ops a.tmps) = true then Oper.wp P o a (W.alloc (.cells cs.toArray e)) Kc Q else Kc (a.put o.dst undef) (W.alloc (.cells cs.toArray e)) := by
  obtain ⟨inner, hown⟩ := Kd.R_own HO
  exact Kd.R_append_step d base hw s x t e z bytes ho ht hinfo hz hs0 hb0 v xs p cs Any_ _ hs hx (M_off hp hown hE) (fun _ h => h) (fun _ _ => trivial) HO HB hbase hl h
end
theorem infoShare : (Tryd.prog.info? 108).map (fun i => (i.zero, i.size, i.bytes)) = some (some (.agg #[(.int .i64 0), (.int .i64 0)]), 2, 16) := by kernel_rfl
theorem infoTerm : (Tryd.prog.info? 96).map (fun i => (i.zero, i.size, i.bytes)) = some (some (.agg #[(.int .i64 0), (.slice none 0 0)]), 2, 32) := by kernel_rfl
theorem infoWay : (Tryd.prog.info? 93).map (fun i => (i.zero, i.size, i.bytes)) = some (some (.slice none 0 0), 1, 24) := by kernel_rfl
theorem infoNode : (Tryd.prog.info? 92).map (fun i => (i.zero, i.size, i.bytes)) = some (some (.agg #[(.bool false), (.slice none 0 0)]), 2, 32) := by kernel_rfl
theorem wCloneSh (w : World) (A : Option Addr) (c : Nat) (l : List NShare) (hC : Kd.C k108 w A l.length l) (hc : l.length ≤ c) (hl : l.length ≤ 1000000) :
    Calls Tryd.prog 113 #[.slice A l.length c] w fun e w' => ∃ v, e = .returned v ∧ k108.R 108 w' w.heap.size Any_ v l ∧ Below w.heap.size w w' := by
  have hn : ∀ wz, (binOp .eql 94 (.slice A l.length c) (.slice none 0 0)).run Tryd.prog wz = .ok (.bool A.isNone) wz := fun wz => Lib.run_eql_slice_nil wz 94 108 A l.length c 0 0 Tryd.underlying94
  cases A with
  | none =>
    have hl0 : l = [] := by
      by_cases q : 0 < l.length
      · obtain ⟨ad, e, _⟩ := hC.2.2 q; cases e
      · exact List.length_eq_zero_iff.1 (by omega)
    subst hl0
    have hn' : ∀ wz, (binOp .eql 94 (.slice none 0 c) (.slice none 0 0)).run Tryd.prog wz = .ok (.bool true) wz := hn
    clear hC hn hc hl
    show Calls _ _ #[.slice none 0 c] _ _
    go_enter Tryd.func113, Tryd.ntmps113
    go_wp2
    go_ret
    exact ⟨_, rfl, Kd.R_nil _ _ _ _ _, Below.refl _ _⟩
  | some ad =>
    have HC := Lib.hid (Kd.C_below hC (Quiet.bel (show Quiet w (w.alloc (.cells #[] 108)) by (repeat (first | exact Fr.refl _ _ | assumption | (refine Fr.quiet ?_ (by assumption)) | refine Fr.quiet ?_ HF.out | refine Fr.quiet ?_ HF2.out | refine Fr.drew ?_ | refine Fr.drewN ?_ _ | refine Fr.alloc ?_ _ | refine Fr.setCell ?_ (.inr (by first | omega | (simp; done) | (simp; omega))) _)))))
    have HR : Hid (k108.R 108 (w.alloc (.cells #[] 108)) w.heap.size Any_ (.slice (some ⟨w.heap.size, 0, none⟩) 0 0) []) :=
      ⟨fun _ _ => trivial, [], World.ownsRow_lit (base := w.heap.size) (e := 108) (size := 2) w #[] 0 (Nat.le_refl _) (by simp) (by simp), Reps.none _ _⟩
    have HB : Hid (Below w.heap.size w (w.alloc (.cells #[] 108))) := (Below.refl _ _).alloc (Nat.le_refl _) _
    have hn' : ∀ wz, (binOp .eql 94 (.slice (some ad) l.length c) (.slice none 0 0)).run Tryd.prog wz = .ok (.bool false) wz := hn
    clear hC hn
    go_enter Tryd.func113, Tryd.ntmps113
    go_wp2_with (at_builtin; refine Kd.R_append_rows k108 (Rr := k108.K (w.alloc (.cells #[] 108))) (w0 := w) w.heap.size rfl _ _ 94 108 _ 16 rfl Tryd.underlying94 infoShare rfl (by decide) (by decide) _ [] l (some ad) l.length c Any_ (fun _ => False) rfl rfl HR.out HC.out (fun x cs hk => by have := k108_open hk; rw [this]; exact k108_mkM _ _ _ x) (fun _ q => q.elim) (fun _ _ => trivial) HB.out HB.out.size (by simp; omega) ?_; intro v1 w1 ho hb hg hat; have HO1 := Lib.hid ho; have HB1 := Lib.hid hb; clear ho hb hg hat)
    go_ret
    exact ⟨_, rfl, HO1.out, HB1.out⟩
end Go.Proofs.YtadepdeckapgcaaDoor
end

section
namespace Go.Proofs.YtadepdeckapgcaaDoor
open Go.RowKit Go.Proofs.YtadepdeckapgcaaDoorW.PrintWords Go.Proofs.YtadepdeckapgcaaDoorW.PrintLast Go.Proofs.YtadepdeckapgcaaDoorW.PrintMore PWitnessTells
set_option linter.unusedSimpArgs false
set_option linter.unusedVariables false
def Sw (w : List NTerm) : Prop := w.length ≤ 1000000 ∧ ∀ m ∈ w, m.f1.length ≤ 1000000
def Sws (ws : List (List NTerm)) : Prop := ws.length ≤ 1000000 ∧ ∀ w ∈ ws, Sw w
def Sns (n : List NNode) : Prop := n.length ≤ 1000000 ∧ ∀ x ∈ n, Sws x.f1
abbrev kWay : Kd (List NTerm) := Kd.slice 96 k96
theorem take_snoc' {α : Type} (d : α) (l : List α) (k : Nat) (h : k < l.length) : l.take (k + 1) = l.take k ++ [l.getD k d] := by
  rw [List.take_succ_eq_append_getElem h]; simp [h]
structure ClOut (w : World) (Y R : Nat) (st : Bool) (v : Value) (ws : List (List NTerm)) (v6 : Value) (wr : World) : Prop where
  y : Blk wr Y #[.bool st, v] 92
  r : Blk wr R #[.bool false, .slice none 0 0] 92
  o : kWay.R 93 wr w.heap.size (fun k => Any_ k ∧ some k ≠ v6.ownBlock) v ws
  b : Below w.heap.size w wr
theorem ClOut.quiet {w : World} {Y R : Nat} {st : Bool} {v v6 : Value} {ws : List (List NTerm)} {wr wz : World} (h : ClOut w Y R st v ws v6 wr) (q : Quiet wr wz) : ClOut w Y R st v ws v6 wz :=
  ⟨q.blk h.y (fun x => x), q.blk h.r (fun x => x), Kd.R_below h.o q.bel, below_then h.b h.b.size q.bel⟩
theorem grown_blk {w w1 : World} {row : Option Nat} (hg : w.grownBy w1 row) {b : Nat} {cs : Array Value} {t : TypeId} (h : Blk w b cs t) (hne : some b ≠ row) : Blk w1 b cs t := (hg.block b h.lt (fun e => hne e)).trans h
theorem own_not_blk {w : World} {b : Nat} {cs : Array Value} {t e : TypeId} {base size n : Nat} {v : Value} {xs : List Value} (h : Blk w b cs t) (ho : w.ownsRow base e size v n xs) (hne : t ≠ e) : some b ≠ v.ownBlock := fun q => by
  obtain ⟨cells, hc⟩ := own_typed ho b q.symm
  rw [Blk] at h; rw [h] at hc
  injection hc with hc; injection hc with _ hc
  exact hne hc
theorem ClOut.grown {w : World} {Y R : Nat} {st : Bool} {v v6 v7 : Value} {ws : List (List NTerm)} {wr wz : World} (h : ClOut w Y R st v ws v6 wr) {size n : Nat} {xs : List Value} (ho : wr.ownsRow w.heap.size 96 size v6 n xs)
    (hg : wr.grownBy wz v6.ownBlock) (hat : v7.ownBlock = v6.ownBlock ∨ ∃ b, v7.ownBlock = some b ∧ wr.heap.size ≤ b) : ClOut w Y R st v ws v7 wz :=
  ⟨grown_blk hg h.y (own_not_blk h.y ho (by decide)), grown_blk hg h.r (own_not_blk h.r ho (by decide)), Kd.R_after h.o hg hat, h.b.grown hg h.b.size (fun k hk => own_base ho k hk)⟩
def ClIn (w : World) (Y R : Nat) (st : Bool) (v : Value) (ws : List (List NTerm)) (way : List NTerm) (v6 i : Value) (wr : World) : Prop :=
  ∃ j : Nat, j ≤ way.length ∧ i = .int .i64 j ∧ k96.R 96 wr w.heap.size Any_ v6 (way.take j) ∧ ClOut w Y R st v ws v6 wr
def ClRel (w : World) (Y R : Nat) (st : Bool) (ws : List (List NTerm)) (i : Value) (wr : World) : Prop :=
  ∃ (k : Nat) (v : Value), k ≤ ws.length ∧ i = .int .i64 k ∧ ClOut w Y R st v (ws.take k) (.slice none 0 0) wr
set_option maxRecDepth 100000 in
set_option maxHeartbeats 4000000 in
theorem wClone (w : World) (x : NNode) (A : Option Addr) (c : Nat) (hC : kWay.C w A x.f1.length x.f1) (hc : x.f1.length ≤ c) (hS : Sws x.f1) :
    Calls Tryd.prog 68 #[.agg #[.bool x.f0, .slice A x.f1.length c]] w fun e w' => ∃ v, e = .returned (.agg #[.bool x.f0, v]) ∧ kWay.R 93 w' w.heap.size Any_ v x.f1 ∧ Below w.heap.size w w' := by
  obtain ⟨st, ws⟩ := x
  simp only at *
  have hm := hC.2.1
  have HC := Lib.hid hC; have HS := Lib.hid hS
  have hs1 := hS.1
  clear hC hS
  go_enter Tryd.func68, Tryd.ntmps68
  go_wp2
  generalize hY : w.heap.size + 1 + 1 = Y at *
  generalize hR : w.heap.size + 1 = R at *
  go_loopw [15] (fun i wr => ClRel w Y R st ws i wr) (fun i _ => ws.length - (intOf i).toNat)
  case atStart =>
    refine ⟨0, .slice none 0 0, Nat.zero_le _, rfl, ⟨?_, ?_, Kd.R_nil _ _ _ _ _, ?_⟩⟩
    · have e : Y = ((w.alloc (.cells #[.bool st, .slice A ws.length c] 92)).alloc (.cells #[.bool false, .slice none 0 0] 92)).heap.size := by simp; omega
      rw [e]; exact Blk.new _ _ _
    · have e : R = (w.alloc (.cells #[.bool st, .slice A ws.length c] 92)).heap.size := by simp; omega
      rw [e]; exact (Blk.new _ _ _).alloc _
    · exact (((Below.refl _ _).alloc (Nat.le_refl _) _).alloc (by simp) _).alloc (by simp <;> omega) _
  case round =>
    obtain ⟨k, v, hk, rfl, hO⟩ := hrel
    obtain ⟨wo, hwo⟩ : ∃ x, x = wr := ⟨_, rfl⟩
    subst hwo
    obtain ⟨dn, hdn⟩ : ∃ d, d = ws.take k := ⟨_, rfl⟩
    rw [← hdn] at hO
    have hdl : dn.length = k := by rw [hdn, List.length_take]; omega
    subst hdl
    obtain ⟨Av, cv, rfl⟩ := Kd.R_slice hO.o
    by_cases hlt : dn.length < ws.length
    · obtain ⟨ad, A1, c1, hA, z0, hl1, hC1⟩ := at_L5 HC.out dn.length (by omega) (by omega)
      have htk := take_snoc' [] ws dn.length hlt
      have hrd : rd_L5 ws (dn.length : Int) = ws.getD dn.length [] := rfl
      have hSw := HS.out.2 _ (getD_mem [] ws dn.length hlt)
      rw [hrd] at z0 hl1 hC1
      rw [← hdn] at htk
      generalize ws.getD dn.length [] = way at *
      simp only [Int.toNat_natCast] at z0
      replace z0 := (hO.b.cell (World.block_lt_of_cell? w _ z0)).trans z0
      subst hA
      have hm1 := hC1.2.1
      have hw1 := hSw.1
      have HDN := Lib.hid hdn
      have HTk := Lib.hid htk; have HSw := Lib.hid hSw; have HO := Lib.hid hO; have HC1 := Lib.hid hC1
      clear htk hSw hO hC1 hrd hdn
      go_wp2
      go_loopw [6, 21] (fun v6 i wr => ClIn w Y R st (.slice Av dn.length cv) dn way v6 i wr) (fun _ i _ => way.length - (intOf i).toNat)
      case atStart => exact ⟨0, Nat.zero_le _, rfl, Kd.R_nil _ _ _ _ _, HO.out⟩
      case round =>
        obtain ⟨j, hj, rfl, hRw, hOi⟩ := hrel
        obtain ⟨ed, hed⟩ : ∃ d, d = way.take j := ⟨_, rfl⟩
        rw [← hed] at hRw
        have hel : ed.length = j := by rw [hed, List.length_take]; omega
        subst hel
        obtain ⟨A6, c6, rfl⟩ := Kd.R_slice hRw
        by_cases hlj : ed.length < way.length
        · obtain ⟨ae, A5, c5, hA5, u0, u1, hl5, hC6⟩ := at_T96 (Kd.C_below HC1.out hOi.b) ed.length (by omega) (by omega)
          have hrd2 : rd_T96 way (ed.length : Int) = way.getD ed.length ⟨0, []⟩ := rfl
          have htk2 := take_snoc' ⟨0, []⟩ way ed.length hlj
          have hSm := HSw.out.2 _ (getD_mem ⟨0, []⟩ way ed.length hlj)
          rw [hrd2] at u0 u1 hl5 hC6
          rw [← hed] at htk2
          generalize way.getD ed.length ⟨0, []⟩ = m at *
          simp only [Int.toNat_natCast] at u0 u1
          subst hA5
          have hm5 := hC6.2.1
          have HSm := Lib.hid hSm; clear hSm; have HTk2 := Lib.hid htk2; have HED := Lib.hid hed; have HC6 := Lib.hid hC6; have HRw := Lib.hid hRw; have HOi := Lib.hid hOi
          clear htk2 hed hC6 hrd2 hRw hOi
          have HN : Hid (Quiet wr (wr.alloc (Obj.cells #[Value.int .i64 m.f0, Value.slice A5 m.f1.length c5] 96)).drew) := Lib.hid (by (repeat (first | exact Fr.refl _ _ | assumption | (refine Fr.quiet ?_ (by assumption)) | refine Fr.quiet ?_ HF.out | refine Fr.quiet ?_ HF2.out | refine Fr.drew ?_ | refine Fr.drewN ?_ _ | refine Fr.alloc ?_ _ | refine Fr.setCell ?_ (.inr (by first | omega | (simp; done) | (simp; omega))) _)))
          have hzb : Hid (w.heap.size ≤ (wr.alloc (Obj.cells #[Value.int .i64 m.f0, Value.slice A5 m.f1.length c5] 96)).drew.heap.size) := Lib.hid (Nat.le_trans HOi.out.b.size HN.out.size)
          have HB0 : Hid (Blk (wr.alloc (Obj.cells #[Value.int .i64 m.f0, Value.slice A5 m.f1.length c5] 96)).drew wr.heap.size #[Value.int .i64 m.f0, Value.slice A5 m.f1.length c5] 96) := Lib.hid ((Blk.new _ _ _).drew)
          have HR2 : Hid (∀ w', Quiet (wr.alloc (Obj.cells #[Value.int .i64 m.f0, Value.slice A5 m.f1.length c5] 96)).drew w' → k96.R 96 w' w.heap.size Any_ (.slice A6 ed.length c6) ed ∧ ClOut w Y R st (.slice Av dn.length cv) dn (.slice A6 ed.length c6) w') := by
            intro w' q
            have q2 := HN.out.quiet q
            exact ⟨Kd.R_below HRw.out (Quiet.bel q2), HOi.out.quiet q2⟩
          go_wp2_with fail
          go_region_law (first
              | (go_simp; go_at_call 113; refine (wCloneSh _ _ _ _ (Kd.C_below HC6.out (Quiet.bel HN.out)) hl5 HSm.out).mono ?_; rintro e w3 ⟨v3, rfl, hr3, hb3⟩; obtain ⟨A8, c8, hv8⟩ := Kd.R_slice hr3; subst hv8; have hq3 := Quiet.of hb3; have k0 := (Fr.blk hq3 HB0.out (fun x => x)).cell 0; have k1 := (Fr.blk hq3 HB0.out (fun x => x)).cell 1; simp at k0 k1; have hz3 : w.heap.size ≤ w3.heap.size := Nat.le_trans HOi.out.b.size (Nat.le_trans HN.out.size hq3.size); have HR3 := Lib.hid hr3; have HQ3 := Lib.hid hq3; clear hr3 hq3 hb3)
              | (have hq7 := HR3.out; refine rAppStep k96 (w0 := w) w.heap.size rfl _ _ 93 96 _ 32 rfl Tryd.underlying93 infoTerm rfl (by decide) (by decide) (.slice A6 ed.length c6) ed m _ rfl rfl (k96_mkM _ _ _ m (Kd.R_lower HR3.out hzb.out)) (by decide) (HR2.out _ HQ3.out).1 (HR2.out _ HQ3.out).2.b hz3 (by omega) ?_; intro v1 w4 ho hb hg hat; have HCl := Lib.hid (ClOut.grown (HR2.out _ HQ3.out).2 (Kd.R_own (HR2.out _ HQ3.out).1).choose_spec hg hat); obtain ⟨fn, hfn⟩ : ∃ d, d = ed ++ [m] := ⟨_, rfl⟩; rw [← hfn] at ho; obtain ⟨A9, c9, hv9⟩ := Kd.R_slice ho; subst hv9; have HFN := Lib.hid hfn; have HO4 := Lib.hid ho; clear hfn ho hb hg hat))
          all_goals
            go_wp2
            go_roundw
            case rel => exact ⟨ed.length + 1, by omega, by go_num, by rw [HTk2.out, ← HFN.out]; exact HO4.out, HCl.out⟩
            case measure => simp [intOf]; omega
        · have hed2 : ed = way := by rw [hed, List.take_of_length_le (by omega)]
          have HED := Lib.hid hed
          clear hed
          have y1 := hOi.y.cell 1; simp at y1
          have y0 := hOi.y.cell 0; simp at y0
          have HO2 := Lib.hid hOi; have HRw := Lib.hid hRw
          clear hOi hRw
          have HE2 := Lib.hid hed2
          clear hed2
          go_wp2_with (at_builtin; refine rApp kWay (w0 := w) w.heap.size rfl _ _ 90 93 (.slice none 0 0) 24 rfl Tryd.underlying90 infoWay rfl (by decide) (by decide) _ dn ed _ rfl rfl (Kd.M_row HRw.out) (by decide) (Kd.R_mono HO2.out.o (fun _ _ => trivial)) HO2.out.b HO2.out.b.size (by omega) ?_; intro v1 w1 ho hb hg hat; obtain ⟨fn, hfn⟩ : ∃ d, d = dn ++ [ed] := ⟨_, rfl⟩; rw [← hfn] at ho; obtain ⟨A9, c9, hv9⟩ := Kd.R_slice ho; subst hv9; have HFN := Lib.hid hfn; clear hfn; have y2 := (grown_blk hg HO2.out.y (own_not_blk HO2.out.y (Kd.R_own HO2.out.o).choose_spec (by decide))); have r2 := (grown_blk hg HO2.out.r (own_not_blk HO2.out.r (Kd.R_own HO2.out.o).choose_spec (by decide))); have yc := y2.cell 1; have yf := y2.free 1; simp at yc; have Y2 := Lib.hid y2; have R2 := Lib.hid r2; have HO3 := Lib.hid ho; have HB3 := Lib.hid hb; clear ho hb hg hat y2 r2)
          go_roundw
          case rel =>
            refine ⟨dn.length + 1, .slice A9 fn.length c9, by omega, by go_num, ?_⟩
            rw [HTk.out, ← HE2.out, ← HFN.out]
            have q1 := Y2.out.set 1 (.slice A9 fn.length c9)
            have q2 := R2.out.set_other (a := ⟨Y, 1, none⟩) (by show Y ≠ R; omega) (.slice A9 fn.length c9)
            have q3 := Kd.R_set (Kd.R_mono HO3.out (ok' := fun k => Any_ k ∧ some k ≠ (Value.slice none 0 0).ownBlock) (fun _ _ => ⟨trivial, by simp [Value.ownBlock]⟩)) Y2.out (by decide) 1 (.slice A9 fn.length c9)
            exact ⟨by simpa using q1, q2, q3, HB3.out.setCell (by show w.heap.size ≤ Y; omega) _⟩
          case measure => simp [intOf]; omega
    · have hdw : dn = ws := by rw [hdn, List.take_of_length_le (by omega)]
      subst hdw
      have y0 := hO.y.cell 0; have y1 := hO.y.cell 1; simp at y0 y1
      have r0 := hO.r.cell 0; have r1 := hO.r.cell 1; simp at r0 r1
      have f0 := hO.r.free 0; have f1 := hO.r.free 1
      have HO := Lib.hid hO
      have hRlt := hO.r.lt
      have hRw : w.heap.size ≤ R := by omega
      clear hO hdn
      go_wp2
      refine bodyPost_ret (results_cell_row rfl _ _ R 92 #[.bool st, .slice Av dn.length cv] (0, 0) _ rfl ?blk Tryd.underlying92 rfl (by kernel_rfl)) rfl ?_
      case blk =>
        have q := (HO.out.r.set 0 (.bool st)).set 1 (.slice Av dn.length cv)
        simp at q
        exact q
      refine ⟨_, rfl, ?_, ?_⟩
      · have q := Kd.R_set (Kd.R_set (Kd.R_mono HO.out.o (ok' := Any_) (fun _ _ => trivial)) HO.out.r (by decide) 0 (.bool st)) (HO.out.r.set 0 (.bool st)) (by decide) 1 (.slice Av dn.length cv)
        exact q
      · exact (HO.out.b.setCell (by exact hRw) _).setCell (by exact hRw) _
end Go.Proofs.YtadepdeckapgcaaDoor
end

section
namespace Go.Proofs.YtadepdeckapgcaaDoor
open Go.RowKit Go.Proofs.YtadepdeckapgcaaDoorW.PrintWords Go.Proofs.YtadepdeckapgcaaDoorW.PrintLast Go.Proofs.YtadepdeckapgcaaDoorW.PrintMore PWitnessTells
set_option linter.unusedSimpArgs false
set_option linter.unusedVariables false
theorem mid_eq (a b n : Nat) (h : a < b) (hb : b ≤ n) (hn : n ≤ MX) : wrap64 ((IntKind.u64.wrap (wrap64 ((a : Int) + (b : Int)))) / 2) = (((a + b) / 2 : Nat) : Int) := by
  unfold MX at hn
  rw [IntKind.wrap_u64]; unfold wrap64; omega
theorem less_f (x y : Int) : cmp_Less_int.f x y = some (decide (x < y)) := by
  unfold cmp_Less_int.f cmp_isNaN_int.f; simp
def BsOK (l : List Int) (t : Int) (r : Int × Bool) : Prop :=
  (r.2 = true → ∃ i : Nat, r.1 = i ∧ i < l.length ∧ l.getD i 0 = t) ∧ (deadC (-1) l = true → r.2 = false → t ∉ l)
theorem deadC_pairwise : ∀ (l : List Int) (last : Int), deadC last l = true → (∀ x ∈ l, last < x) ∧ l.Pairwise (· < ·)
  | [], _, _ => ⟨fun x hx => (by cases hx), .nil⟩
  | a :: r, last, h => by
    rw [deadC_cons] at h
    by_cases q : a ≤ last ∨ 64 ≤ a
    · rw [if_pos q] at h; cases h
    · rw [if_neg q] at h
      obtain ⟨h1, h2⟩ := deadC_pairwise r a h
      refine ⟨fun x hx => ?_, List.pairwise_cons.2 ⟨h1, h2⟩⟩
      rcases List.mem_cons.1 hx with rfl | hx
      · omega
      · have := h1 x hx; omega
theorem getD_lt {l : List Int} (h : l.Pairwise (· < ·)) (i j : Nat) (hij : i < j) (hj : j < l.length) : l.getD i 0 < l.getD j 0 := by
  have := List.pairwise_iff_getElem.1 h i j (by omega) hj hij
  simpa [show i < l.length by omega, hj] using this
theorem ev_bs_l0 (l : List Int) (hl : l.length ≤ MX) (t : Int) : ∀ (m a b : Nat), b - a ≤ m → a ≤ b → b ≤ l.length →
    (deadC (-1) l = true → (∀ i, i < a → l.getD i 0 < t) ∧ (∀ i, b ≤ i → i < l.length → t ≤ l.getD i 0)) →
    ∃ r, Ev (fun k => slices_BinarySearch_int_int.l0 k l t (l.length : Int) a b) r ∧ BsOK l t r := by
  intro m
  induction m with
  | zero =>
    intro a b hm hab hb hs
    obtain rfl : a = b := by omega
    by_cases h1 : a < l.length
    · by_cases h2 : rd l (a : Int) = t
      · refine ⟨((a : Int), true), Ev.step (f := fun _ => some ((a : Int), true)) (fun k => by simp only [slices_BinarySearch_int_int.l0]; rw [if_neg (by omega), if_pos (by omega), if_pos (by omega), if_pos (by omega), if_pos h2]) (Ev.now _), fun _ => ⟨a, rfl, h1, h2⟩, fun _ q => by cases q⟩
      · refine ⟨((a : Int), false), Ev.step (f := fun _ => some ((a : Int), false)) (fun k => by simp only [slices_BinarySearch_int_int.l0]; rw [if_neg (by omega), if_pos (by omega), if_pos (by omega), if_pos (by omega), if_neg h2]; simp [slices_isNaN_int.f]) (Ev.now _), (fun q => by cases q), fun hd _ hmem => ?_⟩
        obtain ⟨s1, s2⟩ := hs hd
        obtain ⟨j, hj, e⟩ := List.getElem_of_mem hmem
        have ej : l.getD j 0 = t := by simpa [hj] using e
        rcases Nat.lt_trichotomy j a with q | q | q
        · have := s1 j q; omega
        · subst q; exact h2 ej
        · have := getD_lt (deadC_pairwise l (-1) hd).2 a j q hj; have := s2 a (Nat.le_refl _) h1; omega
    · refine ⟨((a : Int), false), Ev.step (f := fun _ => some ((a : Int), false)) (fun k => by simp only [slices_BinarySearch_int_int.l0]; rw [if_neg (by omega), if_neg (by omega)]) (Ev.now _), (fun q => by cases q), fun hd _ hmem => ?_⟩
      obtain ⟨s1, s2⟩ := hs hd
      obtain ⟨j, hj, e⟩ := List.getElem_of_mem hmem
      have ej : l.getD j 0 = t := by simpa [hj] using e
      have := s1 j (by omega); omega
  | succ m ih =>
    intro a b hm hab hb hs
    by_cases h : a < b
    · have hmid := Lib.hid (mid_eq a b l.length h hb hl)
      have hrd : rd l (((a + b) / 2 : Nat) : Int) = l.getD ((a + b) / 2) 0 := rfl
      have hc : (a + b) / 2 < b := by omega
      have hca : a ≤ (a + b) / 2 := by omega
      have hw := Lib.hid (wrap_succ ((a + b) / 2) l.length (by omega) hl)
      generalize hcc : (a + b) / 2 = c at *
      have hle : ∀ i j : Nat, deadC (-1) l = true → i ≤ j → j < l.length → l.getD i 0 ≤ l.getD j 0 := fun i j hd q hj => by
        clear hmid
        rcases Nat.lt_or_eq_of_le q with q | q
        · have := getD_lt (deadC_pairwise l (-1) hd).2 i j q hj; omega
        · subst q; omega
      have g1 : (0 : Int) ≤ (c : Int) := by omega
      have g2 : (c : Int) < (l.length : Int) := by omega
      have g3 : (a : Int) < (b : Int) := by omega
      have g4 : b - (c + 1) ≤ m := by omega
      have g5 : c - a ≤ m := by omega
      have g6 : c + 1 ≤ b := by omega
      have g7 : c ≤ l.length := by omega
      clear hcc hm hab
      by_cases hlt : l.getD c 0 < t
      · obtain ⟨r, h1, h2⟩ := ih (c + 1) b g4 g6 hb (fun hd => ⟨fun i hi => by have := hle i c hd (by omega) (by omega); omega, (hs hd).2⟩)
        refine ⟨r, Ev.step (f := fun k => slices_BinarySearch_int_int.l0 k l t (l.length : Int) ((c + 1 : Nat) : Int) b) (fun k => ?_) h1, h2⟩
        simp only [slices_BinarySearch_int_int.l0]
        rw [if_pos g3, hmid.out, if_pos g1, if_pos g2, hrd, less_f, decide_eq_true hlt, hw.out]
        rfl
      · obtain ⟨r, h1, h2⟩ := ih a c g5 hca g7 (fun hd => ⟨(hs hd).1, fun i hi hil => by have := hle c i hd hi hil; omega⟩)
        refine ⟨r, Ev.step (f := fun k => slices_BinarySearch_int_int.l0 k l t (l.length : Int) a (c : Int)) (fun k => ?_) h1, h2⟩
        simp only [slices_BinarySearch_int_int.l0]
        rw [if_pos g3, hmid.out, if_pos g1, if_pos g2, hrd, less_f, decide_eq_false hlt]
        rfl
    · exact ih a b (by omega) hab hb hs
theorem wBs (w : World) (A : Option Addr) (c : Nat) (l : List Int) (t : Int) (hC : Kd.C (Kd.int .i64) w A l.length l) (hc : l.length ≤ c) :
    Calls Tryd.prog 55 #[.slice A l.length c, .int .i64 t] w fun e w' => (∃ (i : Int) (b : Bool), BsOK l t (i, b) ∧ e = .returned (.tuple #[.int .i64 i, .bool b])) ∧ ∃ n, w' = w.drewN n := by
  obtain ⟨⟨i, b⟩, h1, h2⟩ := ev_bs_l0 l (C_len hC).2 t l.length 0 l.length (by omega) (by omega) (by omega) (fun _ => ⟨fun i hi => by omega, fun i h1 h2 => by omega⟩)
  obtain ⟨k, hk⟩ := h1.rounds
  exact (slices_BinarySearch_int_int.calls k A c l t i b w hC hc hk).mono fun e w' ⟨he, hd⟩ => ⟨⟨i, b, h2, he⟩, hd.out⟩
def findL (t : Int) : Nat → List Int → Int
  | _, [] => -1
  | i, x :: r => if x = t then (i : Int) else findL t (i + 1) r
theorem findL_cons (t : Int) (i : Nat) (x : Int) (r : List Int) : findL t i (x :: r) = if x = t then (i : Int) else findL t (i + 1) r := rfl
def lackR (time : Int) (d : List Int) (n : List NNode) (t : Int) : Int :=
  if chkR time d n = 0 then (if findL t 0 d < 0 then -1 else if (n.getD (findL t 0 d).toNat z92).f1.length = 0 then -1 else lacksL (ofL 0 d) 0 ((n.getD (findL t 0 d).toNat z92).f1.getD 0 [])) else -1
theorem findL_spec (t : Int) : ∀ (l : List Int) (i : Nat), (findL t i l = -1 ∧ t ∉ l) ∨ ∃ j : Nat, findL t i l = ((i + j : Nat) : Int) ∧ j < l.length ∧ l.getD j 0 = t := by
  intro l
  induction l with
  | nil => intro i; exact .inl ⟨rfl, by simp⟩
  | cons x r ih =>
    intro i
    rw [findL_cons]
    by_cases h : x = t
    · rw [if_pos h]; exact .inr ⟨0, by simp, by simp, by simpa using h⟩
    · rw [if_neg h]
      rcases ih (i + 1) with ⟨h1, h2⟩ | ⟨j, h1, h2, h3⟩
      · exact .inl ⟨h1, by simp [Ne.symm h, h2]⟩
      · exact .inr ⟨j + 1, by rw [h1]; omega, by simpa using h2, by simpa using h3⟩
theorem bs_find (l : List Int) (t : Int) (i : Int) (b : Bool) (h : BsOK l t (i, b)) (hd : deadC (-1) l = true) : (b = true → findL t 0 l = i) ∧ (b = false → findL t 0 l = -1) := by
  have hp := (deadC_pairwise l (-1) hd).2
  constructor
  · intro hb
    obtain ⟨j, h1, h2, h3⟩ := h.1 hb
    simp only at h1
    rcases findL_spec t l 0 with ⟨_, q⟩ | ⟨k, q1, q2, q3⟩
    · exact absurd (by rw [← h3]; exact getD_mem 0 l j h2) q
    · rw [q1, h1]
      have : j = k := by
        rcases Nat.lt_trichotomy j k with q | q | q
        · have := getD_lt hp j k q q2; omega
        · exact q
        · have := getD_lt hp k j q h2; omega
      omega
  · intro hb
    rcases findL_spec t l 0 with ⟨q, _⟩ | ⟨k, q1, q2, q3⟩
    · exact q
    · exact absurd (by rw [← q3]; exact getD_mem 0 l k q2) (h.2 hd hb)
end Go.Proofs.YtadepdeckapgcaaDoor
end
