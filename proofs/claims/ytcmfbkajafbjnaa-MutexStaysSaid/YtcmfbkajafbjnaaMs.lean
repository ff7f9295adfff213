/- The walk of MutexStays. -/
import Derived.Test.YtcmfbkajafbjnaaMl
namespace Go.Proofs.Ytcmfbkajafbjnaa
open Go.RowKit
set_option linter.unusedSimpArgs false
set_option linter.unusedVariables false

/-- What is lost is nobody's, and not bad. -/
def Mx.fine (m : Mx) : Prop := m.lost = true → m.o = -1 ∧ m.bad = false

theorem act_stays (m : Mx) (hm : m.ok) (hf : m.fine) (k t : Int) :
    (m.act k t).1.fine ∧ (m.lost = true → (m.act k t).1.lost = true ∧ (m.act k t).1.o = -1) ∧
      (m.bad = true → (m.act k t).1.bad = false → (m.act k t).1.lost = false → (k ≠ 0 ∧ k ≠ 1 ∧ k ≠ 2 ∧ k ≠ 3) ∧ t = m.o ∧ 0 ≤ m.o) ∧
      (0 ≤ m.o → 0 ≤ (m.act k t).1.o → (m.act k t).1.o = m.o) := by
  obtain ⟨o, bad, lost⟩ := m
  simp only [Mx.ok, Mx.fine] at *
  by_cases h0 : k = 0
  · subst h0
    simp only [Mx.act, Mx.lock, if_true]
    repeat' split
    all_goals first
      | (refine ⟨?_, ?_, ?_, ?_⟩ <;> simp_all <;> done)
      | (refine ⟨?_, ?_, ?_, ?_⟩ <;> simp_all <;> omega)
  by_cases h1 : k = 1
  · subst h1
    simp only [Mx.act, Mx.unlock, Mx.own]
    by_cases c : 0 ≤ t ∧ o = t
    · cases bad <;> cases lost <;> (refine ⟨?_, ?_, ?_, ?_⟩ <;> simp_all <;> try omega)
    · simp only [c, decide_false]; refine ⟨?_, ?_, ?_, ?_⟩ <;> simp_all
  by_cases h2 : k = 2
  · subst h2
    simp only [Mx.act, Mx.free, Mx.own]
    by_cases c : 0 ≤ t ∧ o = t
    · cases bad <;> cases lost <;> (refine ⟨?_, ?_, ?_, ?_⟩ <;> simp_all <;> try omega)
    · simp only [c, decide_false]; refine ⟨?_, ?_, ?_, ?_⟩ <;> simp_all
  by_cases h3 : k = 3
  · subst h3
    simp only [Mx.act, Mx.die, Mx.own]
    by_cases c : 0 ≤ t ∧ o = t
    · cases bad <;> cases lost <;> (refine ⟨?_, ?_, ?_, ?_⟩ <;> simp_all <;> try omega)
    · simp only [c, decide_false]; refine ⟨?_, ?_, ?_, ?_⟩ <;> simp_all
  · simp only [Mx.act, Mx.mend, Mx.own, h0, h1, h2, h3]
    by_cases c : 0 ≤ t ∧ o = t
    · cases bad <;> cases lost <;> (refine ⟨?_, ?_, ?_, ?_⟩ <;> simp_all <;> try omega)
    · simp only [c, decide_false]; refine ⟨?_, ?_, ?_, ?_⟩ <;> simp_all

theorem stays_cases (k t o0 o1 : Int) (bad lost bad1 lost1 : Bool) (q1 : Mx.fine ⟨o0, bad, lost⟩) (q2 : Mx.fine ⟨o1, bad1, lost1⟩) (q3 : lost = true → lost1 = true ∧ o1 = -1)
    (q4 : bad = true → bad1 = false → lost1 = false → (k ≠ 0 ∧ k ≠ 1 ∧ k ≠ 2 ∧ k ≠ 3) ∧ t = o0 ∧ 0 ≤ o0) :
    (lost = true ∧ bad = false ∧ lost1 = true ∧ bad1 = false ∧ o1 = -1) ∨ (lost = false ∧ lost1 = true ∧ bad1 = false ∧ o1 = -1) ∨ (lost = false ∧ lost1 = false ∧ ¬ (bad = true ∧ bad1 = false)) ∨
      (lost = false ∧ lost1 = false ∧ bad = true ∧ bad1 = false ∧ (k ≠ 0 ∧ k ≠ 1 ∧ k ≠ 2 ∧ k ≠ 3) ∧ t = o0 ∧ 0 ≤ o0) := by
  simp only [Mx.fine] at q1 q2
  cases lost
  · cases lost1
    · by_cases h : bad = true ∧ bad1 = false
      · exact .inr (.inr (.inr ⟨rfl, rfl, h.1, h.2, q4 h.1 h.2 rfl⟩))
      · exact .inr (.inr (.inl ⟨rfl, rfl, h⟩))
    · exact .inr (.inl ⟨rfl, rfl, (q2 rfl).2, (q2 rfl).1⟩)
  · have h3 := (q3 rfl).1
    subst h3
    exact .inl ⟨rfl, (q1 rfl).2, rfl, (q2 rfl).2, (q2 rfl).1⟩

def StaysRel (w : World) (len : Nat) (i : Value) (wr : World) : Prop :=
  ∃ (k : Nat) (m : Mx), i = .int .i64 k ∧ k ≤ len ∧ k ≤ 80 ∧ m.ok ∧ m.fine ∧ MxAt wr w.heap.size m ∧ Quiet w wr

set_option maxRecDepth 100000 in
set_option maxHeartbeats 4000000 in
theorem mxStays (w : World) (v : Value) (len : Nat) (ks ts : Nat → Int) (hv : SlR w w.heap.size v 2 len (opC ks ts))
    (hk : ∀ i, i < len → -9223372036854775808 ≤ ts i ∧ ts i ≤ 9223372036854775807) :
    Calls Try.prog 9 #[v] w fun e w' => e = .returned (.bool true) ∧ Quiet w w' := by
  rcases hv with ⟨rfl, av, rfl⟩ | ⟨b, o, cap, hb, hl, rfl, hc⟩
  · go_enter Try.func9, Try.ntmps9
    go_wp2_with fail
    refine wp_loop_rounds 1 ?_; rw [rounds_succ]
    go_wp2_with ((go_at_call 43; refine (mxLives _).mono ?_; rintro e w' ⟨rfl, hf⟩))
    go_ret
    exact ⟨rfl, by (repeat (first | exact Fr.refl _ _ | assumption | (refine Fr.quiet ?_ (by assumption)) | refine Fr.quiet ?_ HF.out | refine Fr.quiet ?_ HF2.out | refine Fr.drew ?_ | refine Fr.drewN ?_ _ | refine Fr.alloc ?_ _ | refine Fr.setCell ?_ (.inr (by simp)) _))⟩
  have HC := Lib.hid hc; clear hc
  have HK := Lib.hid hk; clear hk
  go_enter Try.func9, Try.ntmps9
  go_wp2_with fail
  go_loopw [4] (fun i wr => StaysRel w len i wr) (fun i _ => len - (intOf i).toNat)
  case atStart =>
    refine ⟨0, ⟨-1, false, false⟩, rfl, by omega, by omega, by unfold Mx.ok; simp, by unfold Mx.fine; simp, ?_, ?_⟩
    · have q := Blk.new w #[.int .i64 0, .bool false, .bool false] 61
      simpa [MxAt, wrap00] using q
    · (repeat (first | exact Fr.refl _ _ | assumption | (refine Fr.quiet ?_ (by assumption)) | refine Fr.quiet ?_ HF.out | refine Fr.quiet ?_ HF2.out | refine Fr.drew ?_ | refine Fr.drewN ?_ _ | refine Fr.alloc ?_ _ | refine Fr.setCell ?_ (.inr (by simp)) _))
  case round =>
    obtain ⟨k, m, rfl, hk1, hk2, hm, hfine, hM, hQ⟩ := hrel
    by_cases hlt : k < len
    · by_cases h80 : k < 80
      · have hc0 : wr.cell? ⟨b, o + k * 2, none⟩ = some (.int .i64 (ks k)) := by rw [hQ.rules.1 _ _ hb]; exact HC.out k 0 hlt (by omega)
        have hc1 : wr.cell? ⟨b, o + k * 2 + 1, none⟩ = some (.int .i64 (ts k)) := by rw [hQ.rules.1 _ _ hb]; exact HC.out k 1 hlt (by omega)
        have hst := act_stays m hm hfine (ks k) (ts k)
        have hm1 := act_ok m hm (ks k) (ts k) (HK.out k hlt)
        have HD := Lib.hid (mxDo wr w.heap.size m hM hm (ks k) (ts k) (HK.out k hlt))
        generalize m.act (ks k) (ts k) = r at *
        obtain ⟨⟨o1, bad1, lost1⟩, rv⟩ := r
        obtain ⟨o0, bad, lost⟩ := m
        simp only at hst hm1 HD
        obtain ⟨hf1, s1, s2, s3⟩ := hst
        have HF1 := Lib.hid hf1; have S1 := Lib.hid s1; have S2 := Lib.hid s2; have S3 := Lib.hid s3; have HQ := Lib.hid hQ; have HFN := Lib.hid hfine
        clear hf1 s1 s2 s3 hQ hfine
        have R : Hid (∀ w', MxAt w' w.heap.size ⟨o1, bad1, lost1⟩ → Fr (· = w.heap.size) wr w' → StaysRel w len (.int .i64 ((k + 1 : Nat) : Int)) w') := by
          intro w' h1 h2
          exact ⟨k + 1, ⟨o1, bad1, lost1⟩, rfl, by omega, by omega, hm1, HF1.out, h1, HQ.out.trans h2 (fun i e => .inr (by omega))⟩
        have C := Lib.hid (stays_cases (ks k) (ts k) o0 o1 bad lost bad1 lost1 HFN.out HF1.out S1.out S2.out)
        clear HF1 S1 S2
        go_upto_region 7 with (first | (go_at_call 40; refine (mxOwner _ _ _ (by assumption) (by assumption)).mono ?_; rintro e w' ⟨rfl, rfl⟩) | (go_at_call 41; refine (mxBad _ _ _ (by assumption)).mono ?_; rintro e w' ⟨rfl, rfl⟩) | (go_at_call 42; refine (mxLost _ _ _ (by assumption)).mono ?_; rintro e w' ⟨rfl, rfl⟩) | (go_at_call 39; refine HD.out.mono ?_; rintro e w' ⟨rfl, hM1, hf⟩))
        have hs1 : b + 1 ≤ wr.heap.size := by have := HQ.out.size; omega
        have hc0' := hf.rules1.1 b (o + k * 2) (by omega) (by omega)
        have hc1' := hf.rules1.1 b (o + k * 2 + 1) (by omega) (by omega)
        rw [hc0] at hc0'; rw [hc1] at hc1'
        have HF := Lib.hid hf; clear hf hc0 hc1 hM
        go_cut [51] (fun s wx => s = .bool false ∧ w' = wx)
        case first =>
          rcases C.out with ⟨rfl, rfl, rfl, rfl, c5⟩ | ⟨rfl, rfl, rfl, c5⟩ | ⟨rfl, rfl, c5⟩ | ⟨rfl, rfl, rfl, rfl, c5⟩
          · obtain rfl := c5
            go_wp2_with (first | (go_at_call 40; refine (mxOwner _ _ _ (by assumption) (by assumption)).mono ?_; rintro e w' ⟨rfl, rfl⟩) | (go_at_call 41; refine (mxBad _ _ _ (by assumption)).mono ?_; rintro e w' ⟨rfl, rfl⟩) | (go_at_call 42; refine (mxLost _ _ _ (by assumption)).mono ?_; rintro e w' ⟨rfl, rfl⟩) | (go_at_call 39; refine HD.out.mono ?_; rintro e w' ⟨rfl, hM1, hf⟩))
            go_meet; exact ⟨rfl, rfl⟩
          · go_wp2_with (first | (go_at_call 40; refine (mxOwner _ _ _ (by assumption) (by assumption)).mono ?_; rintro e w' ⟨rfl, rfl⟩) | (go_at_call 41; refine (mxBad _ _ _ (by assumption)).mono ?_; rintro e w' ⟨rfl, rfl⟩) | (go_at_call 42; refine (mxLost _ _ _ (by assumption)).mono ?_; rintro e w' ⟨rfl, rfl⟩) | (go_at_call 39; refine HD.out.mono ?_; rintro e w' ⟨rfl, hM1, hf⟩))
            go_meet; exact ⟨rfl, rfl⟩
          · clear c5
            go_wp2_with (first | (go_at_call 40; refine (mxOwner _ _ _ (by assumption) (by assumption)).mono ?_; rintro e w' ⟨rfl, rfl⟩) | (go_at_call 41; refine (mxBad _ _ _ (by assumption)).mono ?_; rintro e w' ⟨rfl, rfl⟩) | (go_at_call 42; refine (mxLost _ _ _ (by assumption)).mono ?_; rintro e w' ⟨rfl, rfl⟩) | (go_at_call 39; refine HD.out.mono ?_; rintro e w' ⟨rfl, hM1, hf⟩))
            go_meet; exact ⟨rfl, rfl⟩
          · clear c5
            go_wp2_with (first | (go_at_call 40; refine (mxOwner _ _ _ (by assumption) (by assumption)).mono ?_; rintro e w' ⟨rfl, rfl⟩) | (go_at_call 41; refine (mxBad _ _ _ (by assumption)).mono ?_; rintro e w' ⟨rfl, rfl⟩) | (go_at_call 42; refine (mxLost _ _ _ (by assumption)).mono ?_; rintro e w' ⟨rfl, rfl⟩) | (go_at_call 39; refine HD.out.mono ?_; rintro e w' ⟨rfl, hM1, hf⟩))
            go_meet; exact ⟨rfl, rfl⟩
        case rest =>
          obtain ⟨rfl, rfl⟩ := hcut
          go_upto_region 9 with fail
          go_cut [8] (fun s wx => (∃ mb : Bool, s = .bool mb ∧ ((ks k ≠ 0 ∧ ks k ≠ 1 ∧ ks k ≠ 2 ∧ ks k ≠ 3) ∧ ts k = o0 ∧ 0 ≤ o0 → mb = true)) ∧ w' = wx)
          case first =>
            by_cases k0 : ks k = 0
            · go_wp2_with fail
              go_meet; exact ⟨⟨_, rfl, fun h => absurd k0 h.1.1⟩, rfl⟩
            by_cases k1 : ks k = 1
            · go_wp2_with fail
              go_meet; exact ⟨⟨_, rfl, fun h => absurd k1 h.1.2.1⟩, rfl⟩
            by_cases k2 : ks k = 2
            · go_wp2_with fail
              go_meet; exact ⟨⟨_, rfl, fun h => absurd k2 h.1.2.2.1⟩, rfl⟩
            by_cases k3 : ks k = 3
            · go_wp2_with fail
              go_meet; exact ⟨⟨_, rfl, fun h => absurd k3 h.1.2.2.2⟩, rfl⟩
            by_cases k4 : ts k = o0
            · have K4 := Lib.hid k4
              have k4' : (ts k == o0) = true := by simpa using k4
              clear k4
              have q0 : (ks k != 0) = true := by simpa using k0
              have q1 : (ks k != 1) = true := by simpa using k1
              have q2 : (ks k != 2) = true := by simpa using k2
              have q3 : (ks k != 3) = true := by simpa using k3
              by_cases k5 : 0 ≤ o0
              · go_wp2_with fail
                go_meet; exact ⟨⟨_, rfl, fun _ => rfl⟩, rfl⟩
              · go_wp2_with fail
                go_meet; exact ⟨⟨_, rfl, fun h => absurd h.2.2 (by omega)⟩, rfl⟩
            · have k4' : (ts k == o0) = false := by simpa using k4
              have K4 := Lib.hid k4
              clear k4
              go_wp2_with fail
              go_meet; exact ⟨⟨_, rfl, fun h => absurd h.2.1 K4.out⟩, rfl⟩
          case rest =>
            obtain ⟨⟨mb, rfl, hmb⟩, rfl⟩ := hcut
            have HMB := Lib.hid hmb; clear hmb hc0' hc1'
            go_upto_region 10 with fail
            go_cut [109] (fun s wx => s = .bool false ∧ w' = wx)
            case first =>
              rcases C.out with ⟨rfl, rfl, rfl, rfl, c5⟩ | ⟨rfl, rfl, rfl, c5⟩ | ⟨rfl, rfl, c5⟩ | ⟨rfl, rfl, rfl, rfl, c5⟩
              · clear c5
                go_wp2_with (first | (go_at_call 40; refine (mxOwner _ _ _ (by assumption) (by assumption)).mono ?_; rintro e w' ⟨rfl, rfl⟩) | (go_at_call 41; refine (mxBad _ _ _ (by assumption)).mono ?_; rintro e w' ⟨rfl, rfl⟩) | (go_at_call 42; refine (mxLost _ _ _ (by assumption)).mono ?_; rintro e w' ⟨rfl, rfl⟩) | (go_at_call 39; refine HD.out.mono ?_; rintro e w' ⟨rfl, hM1, hf⟩))
                go_meet; exact ⟨rfl, rfl⟩
              · clear c5
                cases bad <;> (go_wp2_with (first | (go_at_call 40; refine (mxOwner _ _ _ (by assumption) (by assumption)).mono ?_; rintro e w' ⟨rfl, rfl⟩) | (go_at_call 41; refine (mxBad _ _ _ (by assumption)).mono ?_; rintro e w' ⟨rfl, rfl⟩) | (go_at_call 42; refine (mxLost _ _ _ (by assumption)).mono ?_; rintro e w' ⟨rfl, rfl⟩) | (go_at_call 39; refine HD.out.mono ?_; rintro e w' ⟨rfl, hM1, hf⟩)); go_meet; exact ⟨rfl, rfl⟩)
              · cases bad
                · clear c5
                  go_wp2_with (first | (go_at_call 40; refine (mxOwner _ _ _ (by assumption) (by assumption)).mono ?_; rintro e w' ⟨rfl, rfl⟩) | (go_at_call 41; refine (mxBad _ _ _ (by assumption)).mono ?_; rintro e w' ⟨rfl, rfl⟩) | (go_at_call 42; refine (mxLost _ _ _ (by assumption)).mono ?_; rintro e w' ⟨rfl, rfl⟩) | (go_at_call 39; refine HD.out.mono ?_; rintro e w' ⟨rfl, hM1, hf⟩))
                  go_meet; exact ⟨rfl, rfl⟩
                · obtain rfl : bad1 = true := by simpa using c5
                  clear c5
                  go_wp2_with (first | (go_at_call 40; refine (mxOwner _ _ _ (by assumption) (by assumption)).mono ?_; rintro e w' ⟨rfl, rfl⟩) | (go_at_call 41; refine (mxBad _ _ _ (by assumption)).mono ?_; rintro e w' ⟨rfl, rfl⟩) | (go_at_call 42; refine (mxLost _ _ _ (by assumption)).mono ?_; rintro e w' ⟨rfl, rfl⟩) | (go_at_call 39; refine HD.out.mono ?_; rintro e w' ⟨rfl, hM1, hf⟩))
                  go_meet; exact ⟨rfl, rfl⟩
              · obtain rfl := HMB.out c5
                clear c5
                go_wp2_with (first | (go_at_call 40; refine (mxOwner _ _ _ (by assumption) (by assumption)).mono ?_; rintro e w' ⟨rfl, rfl⟩) | (go_at_call 41; refine (mxBad _ _ _ (by assumption)).mono ?_; rintro e w' ⟨rfl, rfl⟩) | (go_at_call 42; refine (mxLost _ _ _ (by assumption)).mono ?_; rintro e w' ⟨rfl, rfl⟩) | (go_at_call 39; refine HD.out.mono ?_; rintro e w' ⟨rfl, hM1, hf⟩))
                go_meet; exact ⟨rfl, rfl⟩
            case rest =>
              obtain ⟨rfl, rfl⟩ := hcut
              go_upto_region 12 with fail
              go_cut [122] (fun s wx => s = .bool false ∧ w' = wx)
              case first =>
                by_cases p0 : 0 ≤ o0
                · by_cases p1 : 0 ≤ o1
                  · have p2 : (o1 != o0) = false := by rw [S3.out p0 p1]; simp
                    go_wp2_with (first | (go_at_call 40; refine (mxOwner _ _ _ (by assumption) (by assumption)).mono ?_; rintro e w' ⟨rfl, rfl⟩) | (go_at_call 41; refine (mxBad _ _ _ (by assumption)).mono ?_; rintro e w' ⟨rfl, rfl⟩) | (go_at_call 42; refine (mxLost _ _ _ (by assumption)).mono ?_; rintro e w' ⟨rfl, rfl⟩) | (go_at_call 39; refine HD.out.mono ?_; rintro e w' ⟨rfl, hM1, hf⟩))
                    go_meet; exact ⟨rfl, rfl⟩
                  · go_wp2_with (first | (go_at_call 40; refine (mxOwner _ _ _ (by assumption) (by assumption)).mono ?_; rintro e w' ⟨rfl, rfl⟩) | (go_at_call 41; refine (mxBad _ _ _ (by assumption)).mono ?_; rintro e w' ⟨rfl, rfl⟩) | (go_at_call 42; refine (mxLost _ _ _ (by assumption)).mono ?_; rintro e w' ⟨rfl, rfl⟩) | (go_at_call 39; refine HD.out.mono ?_; rintro e w' ⟨rfl, hM1, hf⟩))
                    go_meet; exact ⟨rfl, rfl⟩
                · go_wp2_with (first | (go_at_call 40; refine (mxOwner _ _ _ (by assumption) (by assumption)).mono ?_; rintro e w' ⟨rfl, rfl⟩) | (go_at_call 41; refine (mxBad _ _ _ (by assumption)).mono ?_; rintro e w' ⟨rfl, rfl⟩) | (go_at_call 42; refine (mxLost _ _ _ (by assumption)).mono ?_; rintro e w' ⟨rfl, rfl⟩) | (go_at_call 39; refine HD.out.mono ?_; rintro e w' ⟨rfl, hM1, hf⟩))
                  go_meet; exact ⟨rfl, rfl⟩
              case rest =>
                obtain ⟨rfl, rfl⟩ := hcut
                have HR := Lib.hid (R.out _ hM1 HF.out)
                go_wp2_with fail
                go_roundw
                case rel => exact HR.out
                case measure => simp [intOf]; omega
      · have HQ := Lib.hid hQ
        clear hM hQ
        go_wp2_with ((go_at_call 43; refine (mxLives _).mono ?_; rintro e w' ⟨rfl, hf⟩))
        go_ret
        exact ⟨rfl, HQ.out.quiet hf⟩
    · have HQ := Lib.hid hQ
      clear hM hQ
      go_wp2_with ((go_at_call 43; refine (mxLives _).mono ?_; rintro e w' ⟨rfl, hf⟩))
      go_ret
      exact ⟨rfl, HQ.out.quiet hf⟩

/-- MutexStays over data. -/
theorem mxStaysW (W : World) (v : Value) (l : List (Int × Int)) (h : (shL (shP shInt shInt)).rd W W.heap.size l [v]) :
    Calls Try.prog 9 #[v] W fun e w' => e = .returned (.bool true) ∧ Quiet W w' := by
  obtain ⟨h1, h2⟩ := slR_pairs h
  exact mxStays W v l.length _ _ h1 h2

end Go.Proofs.Ytcmfbkajafbjnaa
