/- Walks over package mutex, its reference, and the calls of its statements. -/
import Derived.Test.YtcmfbkajafbjnaaRows
import Derived.Test.YtcmfbkajafbjnaaBase
namespace Go.Proofs.Ytcmfbkajafbjnaa
open Go.RowKit
set_option linter.unusedSimpArgs false
set_option linter.unusedVariables false

/-- A mutex: who owns it (-1: nobody), and what it is like. -/
structure Mx where
  o : Int
  bad : Bool
  lost : Bool

def Mx.ok (m : Mx) : Prop := -1 ≤ m.o ∧ m.o ≤ 9223372036854775807

/-- The program's mutex: its block. -/
def MxAt (w : World) (b : Nat) (m : Mx) : Prop := Blk w b #[.int .i64 (wrap64 (m.o + 1)), .bool m.bad, .bool m.lost] 61

def Mx.lock (m : Mx) (t : Int) : Mx × Int :=
  if t < 0 then (m, 1) else if m.lost then (m, 15) else if m.o = t then (m, 8) else if m.o = -1 then ({ m with o := t }, 0) else (m, 7)
def Mx.own (m : Mx) (t : Int) : Bool := decide (0 ≤ t ∧ m.o = t)
def Mx.unlock (m : Mx) (t : Int) : Mx × Int := if m.own t then (⟨-1, false, m.bad || m.lost⟩, 0) else (m, 9)
def Mx.free (m : Mx) (t : Int) : Mx × Bool := if m.own t then ({ m with o := -1 }, true) else (m, false)
def Mx.die (m : Mx) (t : Int) : Mx × Bool := if m.own t then (⟨-1, true, m.lost⟩, true) else (m, false)
def Mx.mend (m : Mx) (t : Int) : Mx × Int := if m.own t then ({ m with bad := false }, 0) else (m, 9)
def b2i (b : Bool) : Int := if b then 1 else 0
def Mx.act (m : Mx) (k t : Int) : Mx × Int :=
  if k = 0 then m.lock t else if k = 1 then m.unlock t else if k = 2 then ((m.free t).1, b2i (m.free t).2) else if k = 3 then ((m.die t).1, b2i (m.die t).2) else m.mend t

theorem wrap0 : wrap64 (-1 + 1) = 0 := by unfold wrap64; omega
theorem wrap00 : wrap64 0 = 0 := by unfold wrap64; omega
theorem wrapO (o : Int) (h : -1 ≤ o ∧ o ≤ 9223372036854775807) : wrap64 (wrap64 (o + 1) - 1) = o := by unfold wrap64; omega
theorem wrapO_zero (o : Int) (h : -1 ≤ o ∧ o ≤ 9223372036854775807) (h1 : o ≠ -1) : wrap64 (o + 1) ≠ 0 := by unfold wrap64; omega

theorem mxOwner (w : World) (b : Nat) (m : Mx) (h : MxAt w b m) (hm : m.ok) : Calls Try.prog 40 #[.pointer (some ⟨b, 0, none⟩)] w fun e w' => e = .returned (.int .i64 m.o) ∧ w = w' := by
  have h0 := h.cell 0; simp at h0
  have e := Lib.hid (wrapO m.o hm)
  generalize wrap64 (m.o + 1) = c at h0 e
  go_enter Try.func40, Try.ntmps40
  go_wp2
  go_ret
  exact ⟨ret_int e.out, rfl⟩

theorem mxBad (w : World) (b : Nat) (m : Mx) (h : MxAt w b m) : Calls Try.prog 41 #[.pointer (some ⟨b, 0, none⟩)] w fun e w' => e = .returned (.bool m.bad) ∧ w = w' := by
  have h0 := h.cell 1; simp at h0
  go_enter Try.func41, Try.ntmps41
  go_wp2
  go_ret
  exact ⟨rfl, rfl⟩
theorem mxLost (w : World) (b : Nat) (m : Mx) (h : MxAt w b m) : Calls Try.prog 42 #[.pointer (some ⟨b, 0, none⟩)] w fun e w' => e = .returned (.bool m.lost) ∧ w = w' := by
  have h0 := h.cell 2; simp at h0
  go_enter Try.func42, Try.ntmps42
  go_wp2
  go_ret
  exact ⟨rfl, rfl⟩
theorem mxOwn (w : World) (b : Nat) (m : Mx) (h : MxAt w b m) (hm : m.ok) (t : Int) (ht : -9223372036854775808 ≤ t ∧ t ≤ 9223372036854775807) : Calls Try.prog 64 #[.pointer (some ⟨b, 0, none⟩), .int .i64 t] w fun e w' => e = .returned (.bool (m.own t)) ∧ w = w' := by
  have H := Lib.hid h; clear h
  by_cases c1 : t < 0
  · have E : Hid (m.own t = false) := by unfold Mx.own Hid; simp; omega
    go_enter Try.func64, Try.ntmps64
    go_wp2
    go_ret
    exact ⟨ret_bool E.out.symm, rfl⟩
  · have E : Hid ((m.o == t) = m.own t) := by unfold Mx.own Hid; rw [Bool.eq_iff_iff]; simp; omega
    go_enter Try.func64, Try.ntmps64
    go_wp2_with ((go_at_call 40; refine (mxOwner _ _ _ H.out hm).mono ?_; rintro e w' ⟨rfl, rfl⟩))
    go_ret
    exact ⟨ret_bool E.out, rfl⟩

theorem mxLock (w : World) (b : Nat) (m : Mx) (h : MxAt w b m) (hm : m.ok) (t : Int) (ht : -9223372036854775808 ≤ t ∧ t ≤ 9223372036854775807) : Calls Try.prog 44 #[.pointer (some ⟨b, 0, none⟩), .int .i64 t] w fun e w' => e = .returned (.int .i64 (m.lock t).2) ∧ MxAt w' b (m.lock t).1 ∧ Fr (· = b) w w' := by
  have h0 := h.cell 0; simp at h0
  have h2 := h.cell 2; simp at h2
  have f0 := h.free 0
  have H := Lib.hid h; clear h
  obtain ⟨o, bad, lost⟩ := m
  simp only [Mx.ok] at *
  have Hm := Lib.hid hm
  by_cases c1 : t < 0
  · have E : Hid (Mx.lock ⟨o, bad, lost⟩ t = (⟨o, bad, lost⟩, 1)) := by unfold Mx.lock Hid; simp [c1]
    go_enter Try.func44, Try.ntmps44
    go_wp2
    go_ret
    rw [E.out]
    exact ⟨rfl, H.out, Fr.refl _ _⟩
  cases lost
  case true =>
    have E : Hid (Mx.lock ⟨o, bad, true⟩ t = (⟨o, bad, true⟩, 15)) := by unfold Mx.lock Hid; simp [c1]
    go_enter Try.func44, Try.ntmps44
    go_wp2
    go_ret
    rw [E.out]
    exact ⟨rfl, H.out, Fr.refl _ _⟩
  by_cases c3 : o = t
  · have E : Hid (Mx.lock ⟨o, bad, false⟩ t = (⟨o, bad, false⟩, 8)) := by unfold Mx.lock Hid; simp [c1, c3]
    have c3' : (o == t) = true := by simpa using c3
    clear c3
    go_enter Try.func44, Try.ntmps44
    go_wp2_with ((go_at_call 40; refine (mxOwner _ _ _ H.out Hm.out).mono ?_; rintro e w' ⟨rfl, rfl⟩))
    go_ret
    rw [E.out]
    exact ⟨rfl, H.out, Fr.refl _ _⟩
  have c3' : (o == t) = false := by simpa using c3
  by_cases c4 : o = -1
  · have E : Hid (Mx.lock ⟨o, bad, false⟩ t = (⟨t, bad, false⟩, 0)) := by unfold Mx.lock Hid; simp [c1, c3, c4]; omega
    have c5 : wrap64 (o + 1) = 0 := by rw [c4]; exact wrap0
    clear c4
    go_enter Try.func44, Try.ntmps44
    go_wp2_with ((go_at_call 40; refine (mxOwner _ _ _ H.out Hm.out).mono ?_; rintro e w' ⟨rfl, rfl⟩))
    go_ret
    rw [E.out]
    exact ⟨rfl, H.out.set 0 (.int .i64 (wrap64 (t + 1))), Fr.one_set _ _ _ _⟩
  · have E : Hid (Mx.lock ⟨o, bad, false⟩ t = (⟨o, bad, false⟩, 7)) := by unfold Mx.lock Hid; simp [c1, c3, c4]
    have c5 : (wrap64 (o + 1) == 0) = false := by simpa using wrapO_zero o hm c4
    go_enter Try.func44, Try.ntmps44
    go_wp2_with ((go_at_call 40; refine (mxOwner _ _ _ H.out Hm.out).mono ?_; rintro e w' ⟨rfl, rfl⟩))
    go_ret
    rw [E.out]
    exact ⟨rfl, H.out, Fr.refl _ _⟩

theorem mxUnlock (w : World) (b : Nat) (m : Mx) (h : MxAt w b m) (hm : m.ok) (t : Int) (ht : -9223372036854775808 ≤ t ∧ t ≤ 9223372036854775807) : Calls Try.prog 45 #[.pointer (some ⟨b, 0, none⟩), .int .i64 t] w fun e w' => e = .returned (.int .i64 (m.unlock t).2) ∧ MxAt w' b (m.unlock t).1 ∧ Fr (· = b) w w' := by
  have h0 := h.cell 0; simp at h0
  have h1 := h.cell 1; simp at h1
  have h2 := h.cell 2; simp at h2
  have f0 := h.free 0
  have f1 := h.free 1
  have f2 := h.free 2
  have H := Lib.hid h; clear h
  obtain ⟨o, bad, lost⟩ := m
  cases c : Mx.own ⟨o, bad, lost⟩ t
  · have E : Hid (Mx.unlock ⟨o, bad, lost⟩ t = (⟨o, bad, lost⟩, 9)) := by unfold Mx.unlock Hid; simp [c]
    go_enter Try.func45, Try.ntmps45
    go_wp2_with ((go_at_call 64; refine (mxOwn _ _ _ H.out hm _ ht).mono ?_; rintro e w' ⟨rfl, rfl⟩))
    go_ret
    rw [E.out]
    exact ⟨rfl, H.out, Fr.refl _ _⟩
  have E : Hid (Mx.unlock ⟨o, bad, lost⟩ t = (⟨-1, false, bad || lost⟩, 0)) := by unfold Mx.unlock Hid; simp [c]
  cases bad
  · go_enter Try.func45, Try.ntmps45
    go_wp2_with ((go_at_call 64; refine (mxOwn _ _ _ H.out hm _ ht).mono ?_; rintro e w' ⟨rfl, rfl⟩))
    go_ret
    rw [E.out]
    exact ⟨rfl, by have q := H.out.set 0 (.int .i64 0); simpa [MxAt, wrap00] using q, Fr.one_set _ _ _ _⟩
  · go_enter Try.func45, Try.ntmps45
    go_wp2_with ((go_at_call 64; refine (mxOwn _ _ _ H.out hm _ ht).mono ?_; rintro e w' ⟨rfl, rfl⟩))
    go_ret
    rw [E.out]
    exact ⟨rfl, by have q := ((H.out.set 0 (.int .i64 0)).set 1 (.bool false)).set 2 (.bool true); simpa [MxAt, wrap00] using q, ((Fr.one_set _ _ _ _).one_setCell _ _).one_setCell _ _⟩

theorem mxFree (w : World) (b : Nat) (m : Mx) (h : MxAt w b m) (hm : m.ok) (t : Int) (ht : -9223372036854775808 ≤ t ∧ t ≤ 9223372036854775807) : Calls Try.prog 47 #[.pointer (some ⟨b, 0, none⟩), .int .i64 t] w fun e w' => e = .returned (.bool (m.free t).2) ∧ MxAt w' b (m.free t).1 ∧ Fr (· = b) w w' := by
  have h0 := h.cell 0; simp at h0
  have f0 := h.free 0
  have H := Lib.hid h; clear h
  obtain ⟨o, bad, lost⟩ := m
  cases c : Mx.own ⟨o, bad, lost⟩ t
  · have E : Hid (Mx.free ⟨o, bad, lost⟩ t = (⟨o, bad, lost⟩, false)) := by unfold Mx.free Hid; simp [c]
    go_enter Try.func47, Try.ntmps47
    go_wp2_with ((go_at_call 64; refine (mxOwn _ _ _ H.out hm _ ht).mono ?_; rintro e w' ⟨rfl, rfl⟩))
    go_ret
    rw [E.out]
    exact ⟨rfl, H.out, Fr.refl _ _⟩
  · have E : Hid (Mx.free ⟨o, bad, lost⟩ t = (⟨-1, bad, lost⟩, true)) := by unfold Mx.free Hid; simp [c]
    go_enter Try.func47, Try.ntmps47
    go_wp2_with ((go_at_call 64; refine (mxOwn _ _ _ H.out hm _ ht).mono ?_; rintro e w' ⟨rfl, rfl⟩))
    go_ret
    rw [E.out]
    exact ⟨rfl, by have q := H.out.set 0 (.int .i64 0); simpa [MxAt, wrap00] using q, Fr.one_set _ _ _ _⟩

theorem mxMend (w : World) (b : Nat) (m : Mx) (h : MxAt w b m) (hm : m.ok) (t : Int) (ht : -9223372036854775808 ≤ t ∧ t ≤ 9223372036854775807) : Calls Try.prog 46 #[.pointer (some ⟨b, 0, none⟩), .int .i64 t] w fun e w' => e = .returned (.int .i64 (m.mend t).2) ∧ MxAt w' b (m.mend t).1 ∧ Fr (· = b) w w' := by
  have h1 := h.cell 1; simp at h1
  have f1 := h.free 1
  have H := Lib.hid h; clear h
  obtain ⟨o, bad, lost⟩ := m
  cases c : Mx.own ⟨o, bad, lost⟩ t
  · have E : Hid (Mx.mend ⟨o, bad, lost⟩ t = (⟨o, bad, lost⟩, 9)) := by unfold Mx.mend Hid; simp [c]
    go_enter Try.func46, Try.ntmps46
    go_wp2_with ((go_at_call 64; refine (mxOwn _ _ _ H.out hm _ ht).mono ?_; rintro e w' ⟨rfl, rfl⟩))
    go_ret
    rw [E.out]
    exact ⟨rfl, H.out, Fr.refl _ _⟩
  · have E : Hid (Mx.mend ⟨o, bad, lost⟩ t = (⟨o, false, lost⟩, 0)) := by unfold Mx.mend Hid; simp [c]
    go_enter Try.func46, Try.ntmps46
    go_wp2_with ((go_at_call 64; refine (mxOwn _ _ _ H.out hm _ ht).mono ?_; rintro e w' ⟨rfl, rfl⟩))
    go_ret
    rw [E.out]
    exact ⟨rfl, H.out.set 1 (.bool false), Fr.one_set _ _ _ _⟩

theorem mxDie (w : World) (b : Nat) (m : Mx) (h : MxAt w b m) (hm : m.ok) (t : Int) (ht : -9223372036854775808 ≤ t ∧ t ≤ 9223372036854775807) : Calls Try.prog 48 #[.pointer (some ⟨b, 0, none⟩), .int .i64 t] w fun e w' => e = .returned (.bool (m.die t).2) ∧ MxAt w' b (m.die t).1 ∧ Fr (· = b) w w' := by
  have H := Lib.hid h; clear h
  obtain ⟨o, bad, lost⟩ := m
  cases c : Mx.own ⟨o, bad, lost⟩ t
  · have E : Hid (Mx.die ⟨o, bad, lost⟩ t = (⟨o, bad, lost⟩, false)) := by unfold Mx.die Hid; simp [c]
    have E2 : Mx.free ⟨o, bad, lost⟩ t = (⟨o, bad, lost⟩, false) := by unfold Mx.free; simp [c]
    clear c
    go_enter Try.func48, Try.ntmps48
    go_wp2_with fail
    refine (mxFree _ _ _ H.out hm _ ht).mono ?_
    rw [E2]; clear E2
    rintro e w' ⟨rfl, hw, hf⟩
    have HW := Lib.hid hw; have HF := Lib.hid hf; clear hw hf
    go_wp2
    go_ret
    rw [E.out]
    exact ⟨rfl, HW.out, HF.out⟩
  · have E : Hid (Mx.die ⟨o, bad, lost⟩ t = (⟨-1, true, lost⟩, true)) := by unfold Mx.die Hid; simp [c]
    have E2 : Mx.free ⟨o, bad, lost⟩ t = (⟨-1, bad, lost⟩, true) := by unfold Mx.free; simp [c]
    clear c
    go_enter Try.func48, Try.ntmps48
    go_wp2_with fail
    refine (mxFree _ _ _ H.out hm _ ht).mono ?_
    rw [E2]; clear E2
    rintro e w' ⟨rfl, hw, hf⟩
    have h1 := hw.cell 1; simp at h1
    have f1 := hw.free 1
    have HW := Lib.hid hw; have HF := Lib.hid hf; clear hw hf
    go_wp2
    go_ret
    rw [E.out]
    exact ⟨rfl, HW.out.set 1 (.bool true), HF.out.one_setCell _ _⟩

theorem mxLives (w : World) : Calls Try.prog 43 #[] w fun e w' => e = .returned (.bool true) ∧ Quiet w w' := by
  go_enter Try.func43, Try.ntmps43
  go_wp2
  go_ret
  refine ⟨rfl, ?_⟩
  repeat (first | exact Fr.refl _ _ | refine Fr.drew ?_ | refine Fr.alloc ?_ _ | refine Fr.setCell ?_ (.inr (by simp)) _)

theorem mxNil (w : World) (t : Int) : Calls Try.prog 10 #[.int .i64 t] w fun e w' => e = .returned (.bool true) ∧ Quiet w w' := by
  go_enter Try.func10, Try.ntmps10
  by_cases c : t < 0
  · go_wp2_with (first | (go_at_call 43; refine (mxLives _).mono ?_; rintro e w' ⟨rfl, hf⟩) | go_in)
    go_ret
    exact ⟨rfl, hf⟩
  · go_wp2_with (first | (go_at_call 43; refine (mxLives _).mono ?_; rintro e w' ⟨rfl, hf⟩) | go_in)
    go_ret
    exact ⟨rfl, hf⟩

/-- MutexNil over data. -/
theorem mxNilW (W : World) (t : Int) (_ : -9223372036854775808 ≤ t ∧ t ≤ 9223372036854775807) : Calls Try.prog 10 #[.int .i64 t] W fun e w' => e = .returned (.bool true) ∧ Quiet W w' := mxNil W t

end Go.Proofs.Ytcmfbkajafbjnaa
