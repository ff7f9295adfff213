/- The mutex's reference, and a call on the program's mutex. -/
import Derived.Test.YtcmfbkajafbjnaaMx
import Derived.Test.YtcmfbkajafbjnaaPMutexPlaysx1
namespace Go.Proofs.Ytcmfbkajafbjnaa
open Go.RowKit
set_option linter.unusedSimpArgs false
set_option linter.unusedVariables false

theorem rmDo_f (m : Mx) (hm : m.ok) (k t : Int) : PMutexPlays.logjamref16_Do.f m.o m.bad m.lost k t = some ((m.act k t).1.o, (m.act k t).1.bad, (m.act k t).1.lost, (m.act k t).2) := by
  obtain ⟨o, bad, lost⟩ := m
  simp only [Mx.ok] at hm
  unfold PMutexPlays.logjamref16_Do.f PMutexPlays.logjamref16_Lock.f PMutexPlays.logjamref16_Own.f PMutexPlays.logjamref16_Unlock.f PMutexPlays.logjamref16_Free.f PMutexPlays.logjamref16_Die.f PMutexPlays.logjamref16_Mend.f Mx.act Mx.lock Mx.unlock Mx.free Mx.die Mx.mend Mx.own b2i
  by_cases k0 : k = 0
  · simp only [k0, if_true]
    by_cases c1 : t < 0
    · simp [c1]
    cases lost
    · by_cases c2 : o = t
      · simp [c1, c2]
      · by_cases c3 : o = -1
        · subst c3; simp [c1, c2]
        · have : 0 ≤ o := by omega
          simp [c1, c2, c3, this]
    · simp [c1]
  · simp only [k0, if_false]
    by_cases c1 : 0 ≤ t
    · by_cases c2 : o = t
      · by_cases k1 : k = 1
        · cases bad <;> simp [c1, c2, k1]
        by_cases k2 : k = 2
        · simp [c1, c2, k2]
        by_cases k3 : k = 3
        · simp [c1, c2, k3]
        · simp [c1, c2, k1, k2, k3]
      · by_cases k1 : k = 1
        · simp [c1, c2, k1]
        by_cases k2 : k = 2
        · simp [c1, c2, k2]
        by_cases k3 : k = 3
        · simp [c1, c2, k3]
        · simp [c1, c2, k1, k2, k3]
    · by_cases k1 : k = 1
      · simp [c1, k1]
      by_cases k2 : k = 2
      · simp [c1, k2]
      by_cases k3 : k = 3
      · simp [c1, k3]
      · simp [c1, k1, k2, k3]

theorem rmDo (w : World) (m : Mx) (hm : m.ok) (k t : Int) : Calls Try.prog 38 #[.agg #[.int .i64 m.o, .bool m.bad, .bool m.lost], .agg #[.int .i64 k, .int .i64 t]] w fun e w' => e = .returned (.tuple #[.agg #[.int .i64 (m.act k t).1.o, .bool (m.act k t).1.bad, .bool (m.act k t).1.lost], .int .i64 (m.act k t).2]) ∧ Quiet w w' :=
  (PMutexPlays.logjamref16_Do.calls _ _ _ _ _ _ _ _ _ w (rmDo_f m hm k t)).mono fun e w' ⟨he, hb⟩ => ⟨he, Fr.of_below hb⟩

theorem act_ok (m : Mx) (hm : m.ok) (k t : Int) (ht : -9223372036854775808 ≤ t ∧ t ≤ 9223372036854775807) : (m.act k t).1.ok := by
  obtain ⟨o, bad, lost⟩ := m
  simp only [Mx.ok] at *
  unfold Mx.act Mx.lock Mx.unlock Mx.free Mx.die Mx.mend
  repeat' split
  all_goals first | (simp; done) | (simp; omega)

/-- A call, and what is answered. -/
theorem mxDo (w : World) (b : Nat) (m : Mx) (h : MxAt w b m) (hm : m.ok) (k t : Int) (ht : -9223372036854775808 ≤ t ∧ t ≤ 9223372036854775807) :
    Calls Try.prog 39 #[.pointer (some ⟨b, 0, none⟩), .agg #[.int .i64 k, .int .i64 t]] w fun e w' => e = .returned (.int .i64 (m.act k t).2) ∧ MxAt w' b (m.act k t).1 ∧ Fr (· = b) w w' := by
  have hb := h.lt
  have H := Lib.hid (fun o => h.alloc o); clear h
  by_cases k0 : k = 0
  · have E : Hid (m.act k t = m.lock t) := by unfold Mx.act Hid; simp [k0]
    subst k0
    go_enter Try.func39, Try.ntmps39
    go_wp2_with ((go_at_call 44; refine (mxLock _ b m (H.out _) hm _ ht).mono ?_; rintro e w' ⟨rfl, hw, hf⟩; have HW := Lib.hid hw; have HF := Lib.hid hf; clear hw hf))
    go_ret
    rw [E.out]
    exact ⟨rfl, HW.out, ((Fr.refl _ _).alloc _).one HF.out (.inl rfl)⟩
  by_cases k1 : k = 1
  · have E : Hid (m.act k t = m.unlock t) := by unfold Mx.act Hid; simp [k1]
    subst k1
    go_enter Try.func39, Try.ntmps39
    go_wp2_with ((go_at_call 45; refine (mxUnlock _ b m (H.out _) hm _ ht).mono ?_; rintro e w' ⟨rfl, hw, hf⟩; have HW := Lib.hid hw; have HF := Lib.hid hf; clear hw hf))
    go_ret
    rw [E.out]
    exact ⟨rfl, HW.out, ((Fr.refl _ _).alloc _).one HF.out (.inl rfl)⟩
  by_cases k2 : k = 2
  · have E : Hid (m.act k t = ((m.free t).1, b2i (m.free t).2)) := by unfold Mx.act Hid; simp [k2]
    subst k2
    rw [E.out]; unfold b2i
    have G := Lib.hid (fun w h => mxFree w b m h hm t ht)
    generalize m.free t = r at G ⊢
    obtain ⟨m1, r⟩ := r
    cases r
    all_goals
      go_enter Try.func39, Try.ntmps39
      go_wp2_with (first | (go_at_call 47; refine (G.out _ (H.out _)).mono ?_; rintro e w' ⟨rfl, hw, hf⟩; have HW := Lib.hid hw; have HF := Lib.hid hf; clear hw hf) | go_in)
      go_ret
      exact ⟨rfl, HW.out, ((Fr.refl _ _).alloc _).one HF.out (.inl rfl)⟩
  by_cases k3 : k = 3
  · have E : Hid (m.act k t = ((m.die t).1, b2i (m.die t).2)) := by unfold Mx.act Hid; simp [k3]
    subst k3
    rw [E.out]; unfold b2i
    have G := Lib.hid (fun w h => mxDie w b m h hm t ht)
    generalize m.die t = r at G ⊢
    obtain ⟨m1, r⟩ := r
    cases r
    all_goals
      go_enter Try.func39, Try.ntmps39
      go_wp2_with (first | (go_at_call 48; refine (G.out _ (H.out _)).mono ?_; rintro e w' ⟨rfl, hw, hf⟩; have HW := Lib.hid hw; have HF := Lib.hid hf; clear hw hf) | go_in)
      go_ret
      exact ⟨rfl, HW.out, ((Fr.refl _ _).alloc _).one HF.out (.inl rfl)⟩
  · have E : Hid (m.act k t = m.mend t) := by unfold Mx.act Hid; simp [k0, k1, k2, k3]
    go_enter Try.func39, Try.ntmps39
    go_wp2_with ((go_at_call 46; refine (mxMend _ b m (H.out _) hm _ ht).mono ?_; rintro e w' ⟨rfl, hw, hf⟩; have HW := Lib.hid hw; have HF := Lib.hid hf; clear hw hf))
    go_ret
    rw [E.out]
    exact ⟨rfl, HW.out, ((Fr.refl _ _).alloc _).one HF.out (.inl rfl)⟩

end Go.Proofs.Ytcmfbkajafbjnaa
