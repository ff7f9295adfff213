/- The reference's sets of bits (logjamref02): Has, power, With, Without, walked. -/
import Derived.Test.YtcmfbkajafbjnaaDoorRb
namespace Go.Proofs.YtcmfbkajafbjnaaDoor
open Go.RowKit
set_option linter.unusedSimpArgs false
set_option linter.unusedVariables false

theorem withB_lt (s : Nat) (hs : s < B64) (t : Int) : withB s t < B64 := by
  unfold withB
  split
  · rename_i h
    exact Nat.or_lt_two_pow (n := 64) hs (pow_lt t h)
  · exact hs
theorem woutB_lt (s : Nat) (hs : s < B64) (t : Int) : woutB s t < B64 := by
  unfold woutB; generalize 2 ^ t.toNat = x; split <;> omega
theorem hasB_ge (s : Nat) (t : Int) (h : hasB s t = true) : vt t ∧ 2 ^ t.toNat ≤ s := by
  unfold hasB at h
  simp at h
  exact ⟨h.1, Nat.ge_two_pow_of_testBit h.2⟩
theorem shr_half (s k : Nat) : s / 2 ^ k / 2 = s / 2 ^ (k + 1) := by rw [Nat.div_div_eq_div_mul, Nat.pow_succ]
theorem half_int (s k : Nat) : ((s / 2 ^ k : Nat) : Int) / 2 = ((s / 2 ^ (k + 1) : Nat) : Int) := by
  rw [← shr_half]; generalize s / 2 ^ k = x; omega
theorem rHas (w : World) (s : Nat) (hs : s < B64) (t : Int) : Calls Tryd.prog 23 #[.int .u64 s, .int .i64 t] w fun e w' => e = .returned (.bool (hasB s t)) ∧ w = w' := by
  by_cases h0 : t < 0
  · have E : Hid (hasB s t = false) := by unfold Hid hasB; rw [decide_eq_false (by unfold vt; omega)]; rfl
    have h0' := decide_eq_true h0
    go_enter Tryd.func23, Tryd.ntmps23
    go_wp2
    go_ret
    rw [E.out]; exact ⟨rfl, rfl⟩
  · by_cases h1 : t > 63
    · have E : Hid (hasB s t = false) := by unfold Hid hasB; rw [decide_eq_false (by unfold vt; omega)]; rfl
      have h0' := decide_eq_false h0
      have h1' : decide (63 < t) = true := decide_eq_true h1
      go_enter Tryd.func23, Tryd.ntmps23
      go_wp2
      go_ret
      rw [E.out]; exact ⟨rfl, rfl⟩
    · obtain ⟨n, rfl⟩ := Int.eq_ofNat_of_zero_le (show 0 ≤ t by omega)
      have hn : n ≤ 63 := by omega
      have E : Hid ((((s / 2 ^ n : Nat) : Int) % 2 == 1) = hasB s n) := by
        unfold Hid hasB
        rw [decide_eq_true (by unfold vt; omega), Bool.true_and, Nat.testBit_eq_decide_div_mod_eq, Bool.eq_iff_iff, Int.toNat_natCast]
        generalize s / 2 ^ n = x
        simp; omega
      have h0' := decide_eq_false h0
      have h1' : decide (63 < (n : Int)) = false := decide_eq_false h1
      clear h0 h1
      go_enter Tryd.func23, Tryd.ntmps23
      go_wp2
      go_loop [0, 5] (fun x i => ∃ k : Nat, k ≤ n ∧ i = .int .i64 k ∧ x = .int .u64 ((s / 2 ^ k : Nat) : Int)) (fun _ i => n - (intOf i).toNat)
      case atStart => exact ⟨0, Nat.zero_le _, rfl, by simp⟩
      case round =>
        obtain ⟨k, hk, rfl, rfl⟩ := hrel
        have hH := Lib.hid (half_int s k)
        have hl : s / 2 ^ k < 18446744073709551616 := Nat.lt_of_le_of_lt (Nat.div_le_self _ _) hs
        by_cases hlt : k < n
        · generalize s / 2 ^ k = x at *
          go_wp2
          go_round
          case rel => exact ⟨k + 1, by omega, by go_num, by rw [← hH.out]⟩
          case measure => simp [intOf]; omega
        · obtain rfl : k = n := by omega
          generalize s / 2 ^ k = x at *
          go_wp2
          go_ret
          rw [← E.out]; exact ⟨rfl, rfl⟩
theorem rPower (w : World) (t : Int) (h : vt t) : Calls Tryd.prog 29 #[.int .i64 t] w fun e w' => e = .returned (.int .u64 ((2 ^ t.toNat : Nat) : Int)) ∧ w = w' := by
  unfold vt at h
  obtain ⟨n, rfl⟩ := Int.eq_ofNat_of_zero_le h.1
  have hn : n ≤ 63 := by omega
  clear h
  rw [Int.toNat_natCast]
  go_enter Tryd.func29, Tryd.ntmps29
  go_wp2
  go_loop [3, 4] (fun x i => ∃ k : Nat, k ≤ n ∧ i = .int .i64 k ∧ x = .int .u64 ((2 ^ k : Nat) : Int)) (fun _ i => n - (intOf i).toNat)
  case atStart => exact ⟨0, Nat.zero_le _, rfl, by simp⟩
  case round =>
    obtain ⟨k, hk, rfl, rfl⟩ := hrel
    by_cases hlt : k < n
    · have hp : 2 ^ k ≤ 2 ^ 62 := Nat.pow_le_pow_right (by decide) (by omega)
      have hl : 2 ^ k < 9223372036854775808 := by omega
      have hH : Hid (2 ^ (k + 1) = 2 ^ k * 2) := Nat.pow_succ ..
      clear hp
      generalize 2 ^ k = x at *
      go_wp2
      go_round
      case rel => exact ⟨k + 1, by omega, by go_num, by rw [hH.out]; go_num⟩
      case measure => simp [intOf]; omega
    · obtain rfl : k = n := by omega
      go_wp2
      go_ret
      exact ⟨rfl, rfl⟩
theorem rWith (w : World) (s : Nat) (hs : s < B64) (t : Int) : Calls Tryd.prog 20 #[.int .u64 s, .int .i64 t] w fun e w' => e = .returned (.int .u64 (withB s t : Nat)) ∧ w = w' := by
  by_cases h0 : t < 0
  · have E : Hid (withB s t = s) := by unfold Hid withB; rw [if_neg (by unfold vt; omega)]
    have h0' := decide_eq_true h0
    go_enter Tryd.func20, Tryd.ntmps20
    go_wp2
    go_ret
    rw [E.out]; exact ⟨rfl, rfl⟩
  · by_cases h1 : t > 63
    · have E : Hid (withB s t = s) := by unfold Hid withB; rw [if_neg (by unfold vt; omega)]
      have h0' := decide_eq_false h0
      have h1' : decide (63 < t) = true := decide_eq_true h1
      go_enter Tryd.func20, Tryd.ntmps20
      go_wp2
      go_ret
      rw [E.out]; exact ⟨rfl, rfl⟩
    · have hv : vt t := by unfold vt; omega
      have h0' := decide_eq_false h0
      have h1' : decide (63 < t) = false := decide_eq_false h1
      have hb : hasB s t = s.testBit t.toNat := by unfold hasB; simp [hv]
      cases hc : hasB s t
      · have hl := withB_lt s hs t
        have E : Hid (IntKind.u64.wrap ((s : Int) + ((2 ^ t.toNat : Nat) : Int)) = (withB s t : Nat)) := by
          unfold withB at *; rw [if_pos hv] at *
          rw [or_add s t.toNat hs (by unfold vt at hv; omega) (by rw [← hb, hc])] at *
          unfold Hid; rw [IntKind.wrap_u64]; unfold B64 at hl; generalize 2 ^ t.toNat = p at *; omega
        have HV := Lib.hid hv
        clear hv hb hl
        go_enter Tryd.func20, Tryd.ntmps20
        go_wp2_with (first
          | (go_at_call 23; refine (rHas _ _ hs _).mono ?_; rintro e w' ⟨rfl, rfl⟩)
          | (go_at_call 29; refine (rPower _ _ HV.out).mono ?_; rintro e w' ⟨rfl, rfl⟩))
        go_ret
        rw [← E.out]; exact ⟨rfl, rfl⟩
      · have E : Hid (withB s t = s) := by
          unfold Hid withB; rw [if_pos hv]
          apply Nat.eq_of_testBit_eq
          intro i
          rw [Nat.testBit_or, Nat.testBit_two_pow]
          by_cases ei : t.toNat = i
          · subst ei; simp [← hb, hc]
          · simp [ei]
        clear hv hb
        go_enter Tryd.func20, Tryd.ntmps20
        go_wp2_with (go_at_call 23; refine (rHas _ _ hs _).mono ?_; rintro e w' ⟨rfl, rfl⟩)
        go_ret
        rw [E.out]; exact ⟨rfl, rfl⟩
theorem rWithout (w : World) (s : Nat) (hs : s < B64) (t : Int) : Calls Tryd.prog 28 #[.int .u64 s, .int .i64 t] w fun e w' => e = .returned (.int .u64 (woutB s t : Nat)) ∧ w = w' := by
  cases hc : hasB s t
  · have E : Hid (woutB s t = s) := by unfold Hid woutB; simp [hc]
    go_enter Tryd.func28, Tryd.ntmps28
    go_wp2_with (go_at_call 23; refine (rHas _ _ hs _).mono ?_; rintro e w' ⟨rfl, rfl⟩)
    go_ret
    rw [E.out]; exact ⟨rfl, rfl⟩
  · obtain ⟨hv, hg⟩ := hasB_ge s t hc
    have E : Hid (IntKind.u64.wrap ((s : Int) - ((2 ^ t.toNat : Nat) : Int)) = (woutB s t : Nat)) := by
      unfold Hid woutB; rw [IntKind.wrap_u64]; simp only [hc, if_true]; unfold B64 at hs; generalize 2 ^ t.toNat = p at *; omega
    have HV := Lib.hid hv
    clear hv hg
    go_enter Tryd.func28, Tryd.ntmps28
    go_wp2_with (first
      | (go_at_call 23; refine (rHas _ _ hs _).mono ?_; rintro e w' ⟨rfl, rfl⟩)
      | (go_at_call 29; refine (rPower _ _ HV.out).mono ?_; rintro e w' ⟨rfl, rfl⟩))
    go_ret
    rw [← E.out]; exact ⟨rfl, rfl⟩
end Go.Proofs.YtcmfbkajafbjnaaDoor
