/- Walks over package rw, its reference, and the calls of its statements. -/
import Derived.Test.YtcmfbkajafbjnaaDoorRr
import Derived.Shelf.Spec.TrailingZeros
import Derived.Deep.RegionHeld3
import Derived.Deep.QuietTactic
import Derived.BigQuiet
namespace Go.Proofs.YtcmfbkajafbjnaaDoor
open Go.RowKit
set_option linter.unusedSimpArgs false
set_option linter.unusedVariables false

/-- The library's table, as its initialiser lays it. -/
def Tb (w : World) : Prop := TabAt 0 Lib.deBruijn64tab w
theorem Tb.quiet {w w' : World} (h : Tb w) (q : Quiet w w') : Tb w' := fun j hj => Fr.cell q (h j hj) (fun x => x)
theorem Tb.fr {F : Nat → Prop} {w w' : World} (h : Tb w) (q : Fr F w w') (hF : ¬ F 0) : Tb w' := fun j hj => Fr.cell q (h j hj) hF
theorem tz_core (x k idx : Nat) (w : World) (hx0 : ((x : Int) == 0) = false)
    (key : IntKind.u64.wrap (bits BinOp.and IntKind.u64 (x : Int) (IntKind.u64.wrap (-(x : Int))) * 285870213051353865) / 288230376151711744 = (idx : Int))
    (hi : idx < 64) (hk : k < 64) (hcell : w.cell? ⟨0, idx, none⟩ = some (.int .u8 k)) :
    Calls Tryd.prog 30 #[.int .u64 x] w fun e w' => e = .returned (.int .i64 k) ∧ w = w' := by
  go_enter Tryd.func30, Tryd.ntmps30
  go_wp2_with (simp only [key])
  go_ret
  exact ⟨rfl, rfl⟩
theorem wTz (w : World) (x : Nat) (hx : x < B64) (h0 : x ≠ 0) (hT : Tb w) :
    Calls Tryd.prog 30 #[.int .u64 x] w fun e w' => e = .returned (.int .i64 (Lib.ctz 64 x)) ∧ w = w' := by
  obtain ⟨hlow, hk⟩ := Lib.lowest_bit 64 x h0 hx
  obtain ⟨hi, htab⟩ := Lib.deBruijn64_at _ hk
  have hcell := hT _ hi
  rw [htab] at hcell
  exact tz_core x _ _ w (by simp; omega) (tz64_key x _ hx h0 hlow) hi hk hcell
/-- The least of a set; -1: none. -/
def firstB (s : Nat) : Int := if s = 0 then -1 else (Lib.ctz 64 s : Int)
theorem wFirst (w : World) (s : Nat) (hs : s < B64) (hT : Tb w) : Calls Tryd.prog 21 #[.int .u64 s] w fun e w' => e = .returned (.int .i64 (firstB s)) ∧ w = w' := by
  have HT := Lib.hid hT; clear hT
  by_cases h0 : s = 0
  · subst h0
    have E : Hid (firstB 0 = -1) := rfl
    go_enter Tryd.func21, Tryd.ntmps21
    go_wp2
    go_ret
    rw [E.out]; exact ⟨rfl, rfl⟩
  · have E : Hid (firstB s = (Lib.ctz 64 s : Int)) := by unfold Hid firstB; rw [if_neg h0]
    have h1 : ((s : Int) == 0) = false := by simp; omega
    have H0 := Lib.hid h0; clear h0
    go_enter Tryd.func21, Tryd.ntmps21
    go_wp2_with (go_at_call 30; refine (wTz _ _ hs H0.out HT.out).mono ?_; rintro e w' ⟨rfl, rfl⟩)
    go_ret
    rw [E.out]; exact ⟨rfl, rfl⟩
theorem ctz_pow (n : Nat) (h : n ≤ 63) : Lib.ctz 64 (2 ^ n) = n := by
  have : n < 64 := by omega
  have key : ∀ m : Fin 64, Lib.ctz 64 (2 ^ m.val) = m.val := by decide +kernel
  exact key ⟨n, this⟩
theorem firstB_bit (t : Int) (h : -1 ≤ t ∧ t ≤ 63) : firstB (bit1 t) = t := by
  unfold firstB bit1
  by_cases hv : vt t
  · rw [if_pos hv, if_neg (by have := Nat.two_pow_pos t.toNat; omega), ctz_pow _ (by unfold vt at hv; omega)]
    unfold vt at hv; omega
  · rw [if_neg hv, if_pos rfl]; unfold vt at hv; omega
theorem hasB_bit (o t : Int) : hasB (bit1 o) t = decide (vt t ∧ o = t) := by
  unfold hasB bit1
  by_cases h : vt o
  · rw [if_pos h, Nat.testBit_two_pow, Bool.eq_iff_iff, Bool.and_eq_true, decide_eq_true_iff, decide_eq_true_iff, decide_eq_true_iff]
    unfold vt at *
    omega
  · rw [if_neg h, Nat.zero_testBit, Bool.and_false, decide_eq_false]
    rintro ⟨a, rfl⟩; exact h a
theorem woutB_bit (o t : Int) : woutB (bit1 o) t = bit1 (if o = t then -1 else o) := by
  unfold woutB
  rw [hasB_bit]
  by_cases h : o = t
  · subst h
    by_cases hv : vt o
    · simp [hv, bit1]; unfold vt; simp
    · simp [hv, bit1]; unfold vt; simp
  · simp [h]

/-- A lock: who reads, and who writes (-1: nobody). -/
structure Rl where
  r : Nat
  o : Int
def Rl.ok (m : Rl) : Prop := m.r < B64 ∧ -1 ≤ m.o ∧ m.o ≤ 63
def RwAt (w : World) (b : Nat) (m : Rl) : Prop := Blk w b #[.int .u64 m.r, .int .u64 (bit1 m.o)] 27
def Rl.mode (m : Rl) (t : Int) : Int := if 0 ≤ t ∧ m.o = t then 2 else if hasB m.r t then 1 else 0
def Rl.leave (m : Rl) (t : Int) : Rl := ⟨woutB m.r t, if m.o = t then -1 else m.o⟩
def Rl.may (m : Rl) (t : Int) : Int := if t < 0 ∨ 63 < t then 1 else if m.mode t ≠ 0 then 8 else if 0 ≤ m.o then 7 else 0
def Rl.read (m : Rl) (t : Int) : Rl × Int := if m.may t = 0 then (⟨withB m.r t, m.o⟩, 0) else (m, m.may t)
def Rl.write (m : Rl) (t : Int) : Rl × Int := if m.may t = 0 then (if m.r = 0 then (⟨m.r, t⟩, 0) else (m, 7)) else (m, m.may t)
def Rl.lv (m : Rl) (t : Int) : Rl × Int := if t < 0 ∨ 63 < t then (m, 1) else if m.mode t = 0 then (m, 9) else (m.leave t, 0)
def Rl.act (m : Rl) (k t : Int) : Rl × Int := if k = 0 then m.read t else if k = 1 then m.write t else m.lv t

theorem Rl.mode_vt (m : Rl) (t : Int) (h : m.ok) (hv : ¬ vt t) : m.mode t = 0 := by
  unfold mode ok at *
  rw [if_neg (by unfold vt at hv; omega), if_neg]
  unfold hasB; simp [hv]
theorem rwMode (w : World) (b : Nat) (m : Rl) (h : RwAt w b m) (hm : m.ok) (t : Int) : Calls Tryd.prog 13 #[.pointer (some ⟨b, 0, none⟩), .int .i64 t] w fun e w' => e = .returned (.int .i64 (m.mode t)) ∧ w = w' := by
  have h0 := h.cell 0; simp at h0
  have h1 := h.cell 1; simp at h1
  have hr := hm.1
  have hb := bit1_lt m.o
  cases c1 : hasB (bit1 m.o) t
  · cases c2 : hasB m.r t
    · have E : Hid (m.mode t = 0) := by
        rw [hasB_bit] at c1; simp at c1
        unfold Hid Rl.mode; rw [if_neg (by intro q; exact c1 (by have := hm.2; unfold vt; omega) q.2)]; simp [c2]
      clear h hm
      go_enter Tryd.func13, Tryd.ntmps13
      go_wp2_with (go_at_call 22; refine (wHas _ _ (by assumption) _).mono ?_; rintro e w' ⟨rfl, rfl⟩)
      go_ret
      rw [E.out]; exact ⟨rfl, rfl⟩
    · have E : Hid (m.mode t = 1) := by
        rw [hasB_bit] at c1; simp at c1
        unfold Hid Rl.mode; rw [if_neg (by intro q; exact c1 (by have := hm.2; unfold vt; omega) q.2)]; simp [c2]
      clear h hm
      go_enter Tryd.func13, Tryd.ntmps13
      go_wp2_with (go_at_call 22; refine (wHas _ _ (by assumption) _).mono ?_; rintro e w' ⟨rfl, rfl⟩)
      go_ret
      rw [E.out]; exact ⟨rfl, rfl⟩
  · have E : Hid (m.mode t = 2) := by
      rw [hasB_bit] at c1; simp at c1
      unfold Hid Rl.mode; rw [if_pos (by have := c1.1; unfold vt at this; omega)]
    clear h hm
    go_enter Tryd.func13, Tryd.ntmps13
    go_wp2_with (go_at_call 22; refine (wHas _ _ (by assumption) _).mono ?_; rintro e w' ⟨rfl, rfl⟩)
    go_ret
    rw [E.out]; exact ⟨rfl, rfl⟩
theorem rwWriter (w : World) (b : Nat) (m : Rl) (h : RwAt w b m) (hm : m.ok) (hT : Tb w) : Calls Tryd.prog 9 #[.pointer (some ⟨b, 0, none⟩)] w fun e w' => e = .returned (.int .i64 m.o) ∧ w = w' := by
  have h1 := h.cell 1; simp at h1
  have hb := bit1_lt m.o
  have HT := Lib.hid hT
  have E := Lib.hid (firstB_bit m.o hm.2)
  clear h hm hT
  go_enter Tryd.func9, Tryd.ntmps9
  go_wp2_with (go_at_call 21; refine (wFirst _ _ (by assumption) HT.out).mono ?_; rintro e w' ⟨rfl, rfl⟩)
  go_ret
  rw [E.out]; exact ⟨rfl, rfl⟩
theorem rwReaders (w : World) (b : Nat) (m : Rl) (h : RwAt w b m) (hm : m.ok) : Calls Tryd.prog 10 #[.pointer (some ⟨b, 0, none⟩)] w fun e w' => e = .returned (.int .u64 m.r) ∧ w = w' := by
  have h1 := h.cell 0; simp at h1
  have hr := hm.1; unfold B64 at hr
  clear h hm
  go_enter Tryd.func10, Tryd.ntmps10
  go_wp2
  go_ret
  exact ⟨rfl, rfl⟩
theorem or_bit (s : Nat) (hs : s < B64) (t : Int) : bits .or .u64 (s : Int) ((bit1 t : Nat) : Int) = (withB s t : Nat) := with_eq s hs t
theorem rwHolders (w : World) (b : Nat) (m : Rl) (h : RwAt w b m) (hm : m.ok) : Calls Tryd.prog 11 #[.pointer (some ⟨b, 0, none⟩)] w fun e w' => e = .returned (.int .u64 (withB m.r m.o : Nat)) ∧ ∃ n, w' = w.drewN n := by
  have h0 := h.cell 0; simp at h0
  have h1 := h.cell 1; simp at h1
  have hr := hm.1
  have E := Lib.hid (or_bit m.r hr m.o)
  clear h hm
  go_enter Tryd.func11, Tryd.ntmps11
  go_wp2_with fail
  go_quiet (fail)
  go_wp2
  go_ret
  rw [← E.out]; exact ⟨rfl, _, rfl⟩
end Go.Proofs.YtcmfbkajafbjnaaDoor
