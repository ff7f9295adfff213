/- Package rw: what turns a lock; the reference; a call. -/
import Derived.Test.YtcmfbkajafbjnaaDoorRw
namespace Go.Proofs.YtcmfbkajafbjnaaDoor
open Go.RowKit
set_option linter.unusedSimpArgs false
set_option linter.unusedVariables false

theorem rwMay (w : World) (b : Nat) (m : Rl) (h : RwAt w b m) (hm : m.ok) (t : Int) : Calls Tryd.prog 24 #[.pointer (some ⟨b, 0, none⟩), .int .i64 t] w fun e w' => e = .returned (.int .i64 (m.may t)) ∧ w = w' := by
  have h1 := h.cell 1; simp at h1
  have H := Lib.hid h; clear h
  by_cases c0 : t < 0
  · have E : Hid (m.may t = 1) := by unfold Hid Rl.may; rw [if_pos (by omega)]
    have c0' := decide_eq_true c0
    go_enter Tryd.func24, Tryd.ntmps24
    go_wp2
    go_ret
    rw [E.out]; exact ⟨rfl, rfl⟩
  by_cases c1 : 63 < t
  · have E : Hid (m.may t = 1) := by unfold Hid Rl.may; rw [if_pos (by omega)]
    have c0' := decide_eq_false c0
    have c1' : decide (64 ≤ t) = true := decide_eq_true (by omega)
    go_enter Tryd.func24, Tryd.ntmps24
    go_wp2
    go_ret
    rw [E.out]; exact ⟨rfl, rfl⟩
  have c0' := decide_eq_false c0
  have c1' : decide (64 ≤ t) = false := decide_eq_false (by omega)
  have HM := Lib.hid hm
  by_cases c2 : m.mode t = 0
  · by_cases c3 : 0 ≤ m.o
    · have E : Hid (m.may t = 7) := by unfold Hid Rl.may; rw [if_neg (by omega), if_neg (by simpa using c2), if_pos c3]
      have hb : ((bit1 m.o : Nat) : Int) ≠ 0 := by
        unfold bit1; rw [if_pos (by have := hm.2; unfold vt; omega)]
        have := Nat.two_pow_pos m.o.toNat; generalize 2 ^ m.o.toNat = x at *; omega
      have hb' : (((bit1 m.o : Nat) : Int) == 0) = false := by simpa using hb
      have M := Lib.hid (rwMode w b m H.out hm t)
      rw [c2] at M
      clear hm hb c2 c3
      go_enter Tryd.func24, Tryd.ntmps24
      go_wp2_with (go_at_call 13; refine M.out.mono ?_; rintro e w' ⟨rfl, rfl⟩)
      go_ret
      rw [E.out]; exact ⟨rfl, rfl⟩
    · have E : Hid (m.may t = 0) := by unfold Hid Rl.may; rw [if_neg (by omega), if_neg (by simpa using c2), if_neg c3]
      have hb : bit1 m.o = 0 := by unfold bit1; rw [if_neg (by unfold vt; omega)]
      rw [hb] at h1
      have M := Lib.hid (rwMode w b m H.out hm t)
      rw [c2] at M
      clear hm hb c2 c3
      go_enter Tryd.func24, Tryd.ntmps24
      go_wp2_with (go_at_call 13; refine M.out.mono ?_; rintro e w' ⟨rfl, rfl⟩)
      go_ret
      rw [E.out]; exact ⟨rfl, rfl⟩
  · have E : Hid (m.may t = 8) := by unfold Hid Rl.may; rw [if_neg (by omega), if_pos c2]
    have M := Lib.hid (rwMode w b m H.out hm t)
    have c2' : (m.mode t == 0) = false := by simpa using c2
    clear hm c2
    go_enter Tryd.func24, Tryd.ntmps24
    go_wp2_with (go_at_call 13; refine M.out.mono ?_; rintro e w' ⟨rfl, rfl⟩)
    go_ret
    rw [E.out]; exact ⟨rfl, rfl⟩
theorem Rl.may_le (m : Rl) (t : Int) : m.may t = 0 ∨ 1 ≤ m.may t := by unfold may; repeat' split <;> omega
theorem rwRead (w : World) (b : Nat) (m : Rl) (h : RwAt w b m) (hm : m.ok) (t : Int) : Calls Tryd.prog 16 #[.pointer (some ⟨b, 0, none⟩), .int .i64 t] w fun e w' => e = .returned (.int .i64 (m.read t).2) ∧ RwAt w' b (m.read t).1 ∧ Fr (· = b) w w' := by
  have h0 := h.cell 0; simp at h0
  have f0 := h.free 0
  have H := Lib.hid h
  have M := Lib.hid (rwMay w b m h hm t)
  have hr := hm.1
  clear h hm
  by_cases c : m.may t = 0
  · have E : Hid (m.read t = (⟨withB m.r t, m.o⟩, 0)) := by unfold Hid Rl.read; rw [if_pos c]
    rw [c] at M
    clear c
    go_enter Tryd.func16, Tryd.ntmps16
    go_wp2_with (first | (go_at_call 24; refine M.out.mono ?_; rintro e w' ⟨rfl, rfl⟩) | (go_at_call 25; refine (wWith _ _ (by assumption) _).mono ?_; rintro e w' ⟨rfl, rfl⟩))
    go_ret
    rw [E.out]; exact ⟨rfl, by have q := H.out.set 0 (.int .u64 (withB m.r t : Nat)); simpa [RwAt] using q, Fr.one_set _ _ _ _⟩
  · have E : Hid (m.read t = (m, m.may t)) := by unfold Hid Rl.read; rw [if_neg c]
    have c' : (m.may t == 0) = false := by simpa using c
    clear c
    go_enter Tryd.func16, Tryd.ntmps16
    go_wp2_with (first | (go_at_call 24; refine M.out.mono ?_; rintro e w' ⟨rfl, rfl⟩))
    go_ret
    rw [E.out]; exact ⟨rfl, H.out, Fr.refl _ _⟩
theorem of_one (w : World) (t : Int) (bb : Nat) (h : w.cell? ⟨bb, 0, none⟩ = some (.int .i64 t)) : Calls Tryd.prog 26 #[.slice (some ⟨bb, 0, none⟩) 1 1] w fun e w' => e = .returned (.int .u64 (bit1 t : Nat)) ∧ w = w' := by
  have hb := bit1_lt t
  have E : Hid (bits .or .u64 0 ((bit1 t : Nat) : Int) = (bit1 t : Nat)) := by
    unfold Hid
    have := u64_or_nat 0 _ (by decide) hb
    simpa using this
  go_enter Tryd.func26, Tryd.ntmps26
  go_wp2
  refine wp_loop_rounds 2 ?_; rw [rounds_succ]
  go_wp2_with (go_at_call 31; refine (wOne _ _).mono ?_; rintro e w' ⟨rfl, rfl⟩)
  rw [rounds_succ]
  go_wp2
  go_ret
  exact ⟨ret_int E.out, rfl⟩
theorem rwWrite (w : World) (b : Nat) (m : Rl) (h : RwAt w b m) (hm : m.ok) (t : Int) : Calls Tryd.prog 17 #[.pointer (some ⟨b, 0, none⟩), .int .i64 t] w fun e w' => e = .returned (.int .i64 (m.write t).2) ∧ RwAt w' b (m.write t).1 ∧ Fr (· = b) w w' := by
  have h0 := h.cell 0; simp at h0
  have h1 := h.cell 1; simp at h1
  have f1 := h.free 1
  have hlt := h.lt
  have H := Lib.hid h
  have M := Lib.hid (rwMay w b m h hm t)
  clear h
  by_cases c : m.may t = 0
  · by_cases c2 : m.r = 0
    · have E : Hid (m.write t = (⟨m.r, t⟩, 0)) := by unfold Hid Rl.write; rw [if_pos c, if_pos c2]
      rw [c2] at h0
      rw [c] at M
      clear c c2 hm
      go_enter Tryd.func17, Tryd.ntmps17
      go_wp2_with (first | (go_at_call 24; refine M.out.mono ?_; rintro e w' ⟨rfl, rfl⟩) | (go_at_call 26; refine (of_one _ t _ (by simp)).mono ?_; rintro e w' ⟨rfl, rfl⟩))
      go_ret
      rw [E.out]
      refine ⟨rfl, ?_, ?_⟩
      · have q := (H.out.set 1 (.int .u64 (bit1 t : Nat))).alloc (.cells #[.int .i64 t] 3); simpa [RwAt] using q
      · exact (Fr.one_set _ _ _ _).alloc _
    · have E : Hid (m.write t = (m, 7)) := by unfold Hid Rl.write; rw [if_pos c, if_neg c2]
      have c2' : ((m.r : Int) == 0) = false := by simp; omega
      rw [c] at M
      clear c c2 hm
      go_enter Tryd.func17, Tryd.ntmps17
      go_wp2_with (first | (go_at_call 24; refine M.out.mono ?_; rintro e w' ⟨rfl, rfl⟩))
      go_ret
      rw [E.out]; exact ⟨rfl, H.out, Fr.refl _ _⟩
  · have E : Hid (m.write t = (m, m.may t)) := by unfold Hid Rl.write; rw [if_neg c]
    have c' : (m.may t == 0) = false := by simpa using c
    clear c
    go_enter Tryd.func17, Tryd.ntmps17
    go_wp2_with (first | (go_at_call 24; refine M.out.mono ?_; rintro e w' ⟨rfl, rfl⟩))
    go_ret
    rw [E.out]; exact ⟨rfl, H.out, Fr.refl _ _⟩
set_option maxHeartbeats 2000000 in
theorem rwLeave (w : World) (b : Nat) (m : Rl) (h : RwAt w b m) (hm : m.ok) (t : Int) : Calls Tryd.prog 18 #[.pointer (some ⟨b, 0, none⟩), .int .i64 t] w fun e w' => e = .returned (.int .i64 (m.lv t).2) ∧ RwAt w' b (m.lv t).1 ∧ Fr (· = b) w w' := by
  have h0 := h.cell 0; simp at h0
  have h1 := h.cell 1; simp at h1
  have f0 := h.free 0
  have f1 := h.free 1
  have hlt := h.lt
  have H := Lib.hid h
  clear h
  by_cases c0 : t < 0
  · have E : Hid (m.lv t = (m, 1)) := by unfold Hid Rl.lv; rw [if_pos (by omega)]
    have c0' := decide_eq_true c0
    go_enter Tryd.func18, Tryd.ntmps18
    go_wp2
    go_ret
    rw [E.out]; exact ⟨rfl, H.out, Fr.refl _ _⟩
  by_cases c1 : 63 < t
  · have E : Hid (m.lv t = (m, 1)) := by unfold Hid Rl.lv; rw [if_pos (by omega)]
    have c0' := decide_eq_false c0
    have c1' : decide (64 ≤ t) = true := decide_eq_true (by omega)
    go_enter Tryd.func18, Tryd.ntmps18
    go_wp2
    go_ret
    rw [E.out]; exact ⟨rfl, H.out, Fr.refl _ _⟩
  have c0' := decide_eq_false c0
  have c1' : decide (64 ≤ t) = false := decide_eq_false (by omega)
  by_cases c2 : m.mode t = 0
  · have E : Hid (m.lv t = (m, 9)) := by unfold Hid Rl.lv; rw [if_neg (by omega), if_pos c2]
    have M := Lib.hid (rwMode w b m H.out hm t)
    rw [c2] at M
    clear hm c2
    go_enter Tryd.func18, Tryd.ntmps18
    go_wp2_with (go_at_call 13; refine M.out.mono ?_; rintro e w' ⟨rfl, rfl⟩)
    go_ret
    rw [E.out]; exact ⟨rfl, H.out, Fr.refl _ _⟩
  · have E : Hid (m.lv t = (m.leave t, 0)) := by unfold Hid Rl.lv; rw [if_neg (by omega), if_neg c2]
    have M := Lib.hid (rwMode w b m H.out hm t)
    have c2' : (m.mode t == 0) = false := by simpa using c2
    have hr := hm.1
    have hb := bit1_lt m.o
    clear hm c2
    go_enter Tryd.func18, Tryd.ntmps18
    go_wp2_with (go_at_call 13; refine M.out.mono ?_; rintro e w' ⟨rfl, rfl⟩)
    go_region_with (go_at_call 27; refine (wWithout _ _ (by assumption) _).mono ?_; rintro e w' ⟨rfl, rfl⟩)
    all_goals (go_wp2; go_ret)
    all_goals
      rw [E.out]
      refine ⟨rfl, ?_, ?_⟩
      · have q := ((H.out.set 0 (.int .u64 (woutB m.r t : Nat))).set 1 (.int .u64 (woutB (bit1 m.o) t : Nat))).drew; simpa [RwAt, Rl.leave, woutB_bit] using q
      · exact ((Fr.one_set _ _ _ _).one_setCell _ _).drew
end Go.Proofs.YtcmfbkajafbjnaaDoor
