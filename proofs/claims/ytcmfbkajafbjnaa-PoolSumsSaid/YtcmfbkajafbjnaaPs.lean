/- Shares of a pool, a call on a pool, and what the reference does. -/
import Derived.Test.YtcmfbkajafbjnaaPl
import Derived.Test.YtcmfbkajafbjnaaPPoolPlaysx3
namespace Go.Proofs.Ytcmfbkajafbjnaa
open Go.RowKit Go.Proofs.YtcmfbkajafbjnaaW.PrintWords Go.Proofs.YtcmfbkajafbjnaaW.PrintLast Go.Proofs.YtcmfbkajafbjnaaW.PrintMore PPoolPlays
set_option linter.unusedSimpArgs false
set_option linter.unusedVariables false

/-- Who has some, below k. -/
def shTo (hs : List Int) : Nat → List S31
  | 0 => []
  | k + 1 => if 0 < hs.getD k 0 then shTo hs k ++ [⟨k, hs.getD k 0⟩] else shTo hs k
theorem shTo_len (hs : List Int) (k : Nat) : (shTo hs k).length ≤ k := by
  induction k with
  | zero => simp [shTo]
  | succ k ih =>
    unfold shTo
    split
    · simp; omega
    · omega

def ShRel (w : World) (hs : List Int) (v i : Value) (wr : World) : Prop :=
  ∃ k : Nat, k ≤ 64 ∧ i = .int .i64 k ∧ Kd.R k31 31 wr w.heap.size (fun _ => True) v (shTo hs k) ∧ Below w.heap.size w wr

set_option maxHeartbeats 1000000 in
theorem plShares (w : World) (b : Nat) (p : Pl) (h : PlAt w b p) (hp : p.hs.length = 64) : Calls Try.prog 30 #[.pointer (some ⟨b, 0, none⟩)] w fun e w' =>
    ∃ v, e = .returned v ∧ Kd.R k31 31 w' w.heap.size (fun _ => True) v (shTo p.hs 64) ∧ Quiet w w' := by
  have H := Lib.hid h; have HP := Lib.hid hp
  have hb := h.lt
  clear h hp
  go_enter Try.func30, Try.ntmps30
  go_wp2_with fail
  go_loopw [3, 6] (fun v i wr => ShRel w p.hs v i wr) (fun _ i _ => 64 - (intOf i).toNat)
  case atStart => exact ⟨0, by omega, rfl, Kd.R_nil _ _ _ _ _, Below.refl _ _⟩
  case round =>
    obtain ⟨k, hk, rfl, hR, hB⟩ := hrel
    by_cases hlt : k < 64
    · have E : Hid (p.held k = p.hs.getD k 0) := by unfold Pl.held Hid; rw [if_pos ⟨by omega, by omega⟩]; simp
      have HH := Lib.hid (plHeld wr b p ((Fr.of_below (F := fun _ => False) hB).blk H.out (fun q => q)) HP.out k)
      rw [E.out] at HH
      have ST : Hid (shTo p.hs (k + 1) = if 0 < p.hs.getD k 0 then shTo p.hs k ++ [⟨k, p.hs.getD k 0⟩] else shTo p.hs k) := rfl
      have hl := shTo_len p.hs k
      generalize p.hs.getD k 0 = x at *
      have HR := Lib.hid hR; have HB := Lib.hid hB; clear hR hB E
      by_cases hx : 0 < x
      · rw [if_pos hx] at ST
        go_wp2_with (first
          | (go_at_call 33; refine HH.out.mono ?_; rintro e w' ⟨rfl, rfl⟩)
          | (at_builtin; refine Kd.R_append k31 (w0 := w) w.heap.size rfl (.tmp 14) (.tmp 18) 23 31 (.agg #[.int .i64 0, .int .i64 0]) 16 rfl Try.underlying23 info31 rfl (by decide) (by decide) _ (shTo p.hs k) ⟨k, x⟩ [.int .i64 k, .int .i64 x] (fun _ => True) (fun _ => False) rfl rfl (k31_mkM _ _ _ _) (fun _ q => q.elim) (fun _ _ => trivial) HR.out HB.out HB.out.size (by omega) ?_; intro v1 w1 hR1 hB1 _ _; have HR1 := Lib.hid hR1; have HB1 := Lib.hid hB1; clear hR1 hB1))
        go_roundw
        case rel => exact ⟨k + 1, by omega, by go_num, by rw [ST.out]; exact HR1.out, HB1.out⟩
        case measure => simp [intOf]; omega
      · rw [if_neg hx] at ST
        go_wp2_with ((go_at_call 33; refine HH.out.mono ?_; rintro e w' ⟨rfl, rfl⟩))
        go_roundw
        case rel => exact ⟨k + 1, by omega, by go_num, by rw [ST.out]; exact HR.out, HB.out⟩
        case measure => simp [intOf]; omega
    · obtain rfl : k = 64 := by omega
      have HR := Lib.hid hR; have HB := Lib.hid hB; clear hR hB
      go_wp2
      go_ret
      exact ⟨_, rfl, HR.out, Fr.of_below HB.out⟩

/-- A call: 0 Take, 1 Give, Back else. -/
def Pl.act (p : Pl) (k t n : Int) : Pl × Int := if k = 0 then ((p.take t n).1, b2i (p.take t n).2) else if k = 1 then p.give t n else p.back t
theorem pact_ok (p : Pl) (hp : p.ok) (k t n : Int) : (p.act k t n).1.ok := by
  unfold Pl.act
  split
  · exact take_ok p hp t n
  split
  · exact give_ok p hp t n
  · exact back_ok p hp t

theorem plDo (w : World) (b : Nat) (p : Pl) (h : PlAt w b p) (hp : p.ok) (k t n : Int) :
    Calls Try.prog 29 #[.pointer (some ⟨b, 0, none⟩), .agg #[.int .i64 k, .int .i64 t, .int .i64 n]] w fun e w' => e = .returned (.int .i64 (p.act k t n).2) ∧ PlAt w' b (p.act k t n).1 ∧ Fr (· = b) w w' := by
  have hb := h.lt
  have H := Lib.hid (fun o => h.alloc o); clear h
  by_cases k0 : k = 0
  · have E : Hid (p.act k t n = ((p.take t n).1, b2i (p.take t n).2)) := by unfold Pl.act Hid; simp [k0]
    subst k0
    rw [E.out]; unfold b2i
    have G := Lib.hid (fun w h => plTake w b p h hp t n)
    generalize p.take t n = r at G ⊢
    obtain ⟨m1, r⟩ := r
    cases r
    all_goals
      go_enter Try.func29, Try.ntmps29
      go_wp2_with ((go_at_call 50; refine (G.out _ (H.out _)).mono ?_; rintro e w' ⟨rfl, hw, hf⟩; have HW := Lib.hid hw; have HF := Lib.hid hf; clear hw hf))
      go_ret
      exact ⟨rfl, HW.out, ((Fr.refl _ _).alloc _).one HF.out (.inl rfl)⟩
  by_cases k1 : k = 1
  · have E : Hid (p.act k t n = p.give t n) := by unfold Pl.act Hid; simp [k1]
    subst k1
    go_enter Try.func29, Try.ntmps29
    go_wp2_with ((go_at_call 51; refine (plGive _ b p (H.out _) hp t n).mono ?_; rintro e w' ⟨rfl, hw, hf⟩; have HW := Lib.hid hw; have HF := Lib.hid hf; clear hw hf))
    go_ret
    rw [E.out]
    exact ⟨rfl, HW.out, ((Fr.refl _ _).alloc _).one HF.out (.inl rfl)⟩
  · have E : Hid (p.act k t n = p.back t) := by unfold Pl.act Hid; simp [k0, k1]
    go_enter Try.func29, Try.ntmps29
    go_wp2_with ((go_at_call 52; refine (plBack _ b p (H.out _) hp t).mono ?_; rintro e w' ⟨rfl, hw, hf⟩; have HW := Lib.hid hw; have HF := Lib.hid hf; clear hw hf))
    go_ret
    rw [E.out]
    exact ⟨rfl, HW.out, ((Fr.refl _ _).alloc _).one HF.out (.inl rfl)⟩

end Go.Proofs.Ytcmfbkajafbjnaa
