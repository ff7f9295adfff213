/- The walks of the statements over a mutex. -/
import Derived.Test.YtcmfbkajafbjnaaMr
import Derived.Deep.RegionHeld3
import Derived.LoopTactic
import Derived.Deep.DeepCutAuto
import Derived.Test.YtcmfbkajafbjnaaShape
namespace Go.Proofs.Ytcmfbkajafbjnaa
open Go.RowKit
set_option linter.unusedSimpArgs false
set_option linter.unusedVariables false

def opC (ks ts : Nat → Int) (i j : Nat) : Value := if j = 0 then .int .i64 (ks i) else .int .i64 (ts i)

def PlaysRel (w : World) (len bx : Nat) (i : Value) (wr : World) : Prop :=
  ∃ (k : Nat) (m : Mx), i = .int .i64 k ∧ k ≤ len ∧ k ≤ 80 ∧ m.ok ∧ MxAt wr w.heap.size m ∧ Blk wr bx #[.int .i64 m.o, .bool m.bad, .bool m.lost] 63 ∧ Quiet w wr

set_option maxHeartbeats 1000000 in
theorem mxPlays (w : World) (v : Value) (len : Nat) (ks ts : Nat → Int) (hv : SlR w w.heap.size v 2 len (opC ks ts))
    (hk : ∀ i, i < len → -9223372036854775808 ≤ ts i ∧ ts i ≤ 9223372036854775807) :
    Calls Try.prog 8 #[v] w fun e w' => e = .returned (.bool true) ∧ Quiet w w' := by
  rcases hv with ⟨rfl, av, rfl⟩ | ⟨b, o, cap, hb, hl, rfl, hc⟩
  · go_enter Try.func8, Try.ntmps8
    go_wp2_with ((go_at_call 37; refine (PMutexPlays.logjamref16_New.calls _ _ _ _ rfl).mono ?_; rintro e w' ⟨rfl, hb⟩; replace hf : Quiet _ _ := Fr.of_below hb; clear hb; have HF := Lib.hid hf; clear hf))
    refine wp_loop_rounds 1 ?_; rw [rounds_succ]
    go_wp2_with ((go_at_call 43; refine (mxLives _).mono ?_; rintro e w' ⟨rfl, hf⟩))
    go_ret
    exact ⟨rfl, by (repeat (first | exact Fr.refl _ _ | assumption | (refine Fr.quiet ?_ (by assumption)) | refine Fr.quiet ?_ HF.out | refine Fr.quiet ?_ HF2.out | refine Fr.drew ?_ | refine Fr.drewN ?_ _ | refine Fr.alloc ?_ _ | refine Fr.setCell ?_ (.inr (by simp)) _))⟩
  have HC := Lib.hid hc; clear hc
  have HK := Lib.hid hk; clear hk
  go_enter Try.func8, Try.ntmps8
  go_wp2_with ((go_at_call 37; refine (PMutexPlays.logjamref16_New.calls _ _ _ _ rfl).mono ?_; rintro e w' ⟨rfl, hb⟩; replace hf : Quiet _ _ := Fr.of_below hb; clear hb; obtain ⟨hc, hz⟩ := hf.rules; have hs := hf.size; simp at hs; have HF := Lib.hid hf; clear hf))
  generalize hbx : w'.heap.size = bx at *
  go_loopw [5] (fun i wr => PlaysRel w len bx i wr) (fun i _ => len - (intOf i).toNat)
  case atStart =>
    subst hbx
    refine ⟨0, ⟨-1, false, false⟩, rfl, by omega, by omega, by unfold Mx.ok; simp, ?_, Blk.new _ _ _, ?_⟩
    · refine Blk.alloc ?_ _
      have q := HF.out.blk (Blk.new _ _ _) (fun q => q)
      simpa [MxAt, wrap00] using q
    · (repeat (first | exact Fr.refl _ _ | assumption | (refine Fr.quiet ?_ (by assumption)) | refine Fr.quiet ?_ HF.out | refine Fr.quiet ?_ HF2.out | refine Fr.drew ?_ | refine Fr.drewN ?_ _ | refine Fr.alloc ?_ _ | refine Fr.setCell ?_ (.inr (by simp)) _))
  case round =>
    obtain ⟨k, m, rfl, hk1, hk2, hm, hM, hX, hQ⟩ := hrel
    by_cases hlt : k < len
    · by_cases h80 : k < 80
      · have hc0 : wr.cell? ⟨b, o + k * 2, none⟩ = some (.int .i64 (ks k)) := by rw [hQ.rules.1 _ _ hb]; exact HC.out k 0 hlt (by omega)
        have hc1 : wr.cell? ⟨b, o + k * 2 + 1, none⟩ = some (.int .i64 (ts k)) := by rw [hQ.rules.1 _ _ hb]; exact HC.out k 1 hlt (by omega)
        have hx0 := hX.cell 0; simp at hx0
        have hx1 := hX.cell 1; simp at hx1
        have hx2 := hX.cell 2; simp at hx2
        have hXl := hX.lt
        have HS : Hid (∀ w', Quiet wr w' → w'.cell? ⟨bx, 0, none⟩ = some (.int .i64 m.o) ∧ w'.cell? ⟨bx, 1, none⟩ = some (.bool m.bad) ∧ w'.cell? ⟨bx, 2, none⟩ = some (.bool m.lost) ∧ w'.cell? ⟨b, o + k * 2, none⟩ = some (.int .i64 (ks k)) ∧ w'.cell? ⟨b, o + k * 2 + 1, none⟩ = some (.int .i64 (ts k)) ∧ Quiet wr w') := by
          intro w' q
          have hb' : b < wr.heap.size := Nat.lt_of_lt_of_le hb hQ.size
          rw [q.rules.1 _ _ hXl, q.rules.1 _ _ hXl, q.rules.1 _ _ hXl, q.rules.1 _ _ hb', q.rules.1 _ _ hb']
          exact ⟨hx0, hx1, hx2, hc0, hc1, q⟩
        have HX := Lib.hid hX; have HM := Lib.hid hM; have HQ := Lib.hid hQ; clear hX hM hQ hc hz
        go_wp2_with fail
        go_cut [6, 7] (fun s6 s7 wx => ∃ g : Nat, s6 = .pointer (some ⟨g, 0, none⟩) ∧ s7 = .int .i64 (m.act (ks k) (ts k)).2 ∧ Blk wx g #[.int .i64 (m.act (ks k) (ts k)).1.o, .bool (m.act (ks k) (ts k)).1.bad, .bool (m.act (ks k) (ts k)).1.lost] 63 ∧ Quiet wr wx)
        case first =>
          go_region_held3 (fun w' => w'.cell? ⟨bx, 0, none⟩ = some (.int .i64 m.o) ∧ w'.cell? ⟨bx, 1, none⟩ = some (.bool m.bad) ∧ w'.cell? ⟨bx, 2, none⟩ = some (.bool m.lost) ∧ w'.cell? ⟨b, o + k * 2, none⟩ = some (.int .i64 (ks k)) ∧ w'.cell? ⟨b, o + k * 2 + 1, none⟩ = some (.int .i64 (ts k)) ∧ Quiet wr w')
            (exact HS.out _ (by (repeat (first | exact Fr.refl _ _ | assumption | (refine Fr.quiet ?_ (by assumption)) | refine Fr.quiet ?_ HF.out | refine Fr.quiet ?_ HF2.out | refine Fr.drew ?_ | refine Fr.drewN ?_ _ | refine Fr.alloc ?_ _ | refine Fr.setCell ?_ (.inr (by simp)) _))))
            (first | (go_at_call 38; refine (rmDo _ m hm _ _).mono ?_; rintro e w' ⟨rfl, hf⟩; have hc := hf.rules.1; have hz := hf.rules.2; have hs := hf.size; simp at hs))
          all_goals (go_wp2_with fail; go_meet)
          · exact ⟨_, rfl, rfl, Blk.new _ _ _, by (repeat (first | exact Fr.refl _ _ | assumption | (refine Fr.quiet ?_ (by assumption)) | refine Fr.quiet ?_ HF.out | refine Fr.quiet ?_ HF2.out | refine Fr.drew ?_ | refine Fr.drewN ?_ _ | refine Fr.alloc ?_ _ | refine Fr.setCell ?_ (.inr (by simp)) _))⟩
          · refine ⟨_, rfl, rfl, ?_, by (repeat (first | exact Fr.refl _ _ | assumption | (refine Fr.quiet ?_ (by assumption)) | refine Fr.quiet ?_ HF.out | refine Fr.quiet ?_ HF2.out | refine Fr.drew ?_ | refine Fr.drewN ?_ _ | refine Fr.alloc ?_ _ | refine Fr.setCell ?_ (.inr (by simp)) _))⟩
            have q := (((hf.blk ((Blk.new wr _ _).drew) (fun q => q)).set 0 (.int .i64 (m.act (ks k) (ts k)).1.o)).set 1 (.bool (m.act (ks k) (ts k)).1.bad)).set 2 (.bool (m.act (ks k) (ts k)).1.lost)
            simpa using q
        case rest =>
          obtain ⟨g, rfl, rfl, hg, hQ2⟩ := hcut
          clear HS
          have hm1 := act_ok m hm (ks k) (ts k) (HK.out k hlt)
          have hM2 := hQ2.blk HM.out (fun q => q)
          have hX2 := hQ2.blk HX.out (fun q => q)
          have hQ3 : Quiet w wc := HQ.out.quiet hQ2
          have hmD := Lib.hid (fun w' h => mxDo w' w.heap.size m h hm (ks k) (ts k) (HK.out k hlt))
          clear hc0 hc1 hx0 hx1 hx2
          generalize m.act (ks k) (ts k) = r at *
          obtain ⟨⟨o1, bad1, lost1⟩, rv⟩ := r
          simp only at *
          have hg0 := hg.cell 0; simp at hg0
          have hg1 := hg.cell 1; simp at hg1
          have hg2 := hg.cell 2; simp at hg2
          have hx0 := hX2.cell 0; simp at hx0
          have hx1 := hX2.cell 1; simp at hx1
          have hx2 := hX2.cell 2; simp at hx2
          have f0 := hX2.free 0
          have f1 := hX2.free 1
          have f2 := hX2.free 2
          have hX7 : Blk (((wc.setCell ⟨bx, 0, none⟩ (.int .i64 o1)).setCell ⟨bx, 1, none⟩ (.bool bad1)).setCell ⟨bx, 2, none⟩ (.bool lost1)) bx #[.int .i64 o1, .bool bad1, .bool lost1] 63 := by simpa using ((hX2.set 0 (.int .i64 o1)).set 1 (.bool bad1)).set 2 (.bool lost1)
          have hM7 : MxAt (((wc.setCell ⟨bx, 0, none⟩ (.int .i64 o1)).setCell ⟨bx, 1, none⟩ (.bool bad1)).setCell ⟨bx, 2, none⟩ (.bool lost1)) w.heap.size m := ((Blk.set_other hM2 (by show bx ≠ _; omega) _).set_other (by show bx ≠ _; omega) _).set_other (by show bx ≠ _; omega) _
          have hQ7 : Quiet w (((wc.setCell ⟨bx, 0, none⟩ (.int .i64 o1)).setCell ⟨bx, 1, none⟩ (.bool bad1)).setCell ⟨bx, 2, none⟩ (.bool lost1)) := ((hQ3.setCell (.inr (by show _ ≤ bx; omega)) _).setCell (.inr (by show _ ≤ bx; omega)) _).setCell (.inr (by show _ ≤ bx; omega)) _
          have HX := Lib.hid hX7; have HM := Lib.hid hM7; have HQ := Lib.hid hQ7; clear hX7 hM7 hQ7 hX2 hM2 hQ2 hQ3 hg
          go_wp2_with fail
          generalize (((wc.setCell ⟨bx, 0, none⟩ (.int .i64 o1)).setCell ⟨bx, 1, none⟩ (.bool bad1)).setCell ⟨bx, 2, none⟩ (.bool lost1)) = w7 at *
          clear hg0 hg1 hg2 hx0 hx1 hx2 f0 f1 f2
          have HS : Hid (∀ w', Fr (· = w.heap.size) w7 w' → w'.cell? ⟨bx, 0, none⟩ = some (.int .i64 o1) ∧ w'.cell? ⟨bx, 1, none⟩ = some (.bool bad1) ∧ w'.cell? ⟨bx, 2, none⟩ = some (.bool lost1) ∧ w'.cell? ⟨b, o + k * 2, none⟩ = some (.int .i64 (ks k)) ∧ w'.cell? ⟨b, o + k * 2 + 1, none⟩ = some (.int .i64 (ts k)) ∧ Fr (· = w.heap.size) w7 w') := by
            intro w' q
            have hX := HX.out
            have hXl := hX.lt
            have hb' : b < w7.heap.size := Nat.lt_of_lt_of_le hb HQ.out.size
            have e0 := hX.cell 0; have e1 := hX.cell 1; have e2 := hX.cell 2
            simp at e0 e1 e2
            have hc0 : w7.cell? ⟨b, o + k * 2, none⟩ = some (.int .i64 (ks k)) := by rw [HQ.out.rules.1 _ _ hb]; exact HC.out k 0 hlt (by omega)
            have hc1 : w7.cell? ⟨b, o + k * 2 + 1, none⟩ = some (.int .i64 (ts k)) := by rw [HQ.out.rules.1 _ _ hb]; exact HC.out k 1 hlt (by omega)
            rw [q.rules1.1 _ _ hXl (by omega), q.rules1.1 _ _ hXl (by omega), q.rules1.1 _ _ hXl (by omega), q.rules1.1 _ _ hb' (by omega), q.rules1.1 _ _ hb' (by omega)]
            exact ⟨e0, e1, e2, hc0, hc1, q⟩
          go_cut [59] (fun s wx => s = .bool false ∧ MxAt wx w.heap.size ⟨o1, bad1, lost1⟩ ∧ Fr (· = w.heap.size) w7 wx)
          case first =>
            go_region_held3 (fun w' => w'.cell? ⟨bx, 0, none⟩ = some (.int .i64 o1) ∧ w'.cell? ⟨bx, 1, none⟩ = some (.bool bad1) ∧ w'.cell? ⟨bx, 2, none⟩ = some (.bool lost1) ∧ w'.cell? ⟨b, o + k * 2, none⟩ = some (.int .i64 (ks k)) ∧ w'.cell? ⟨b, o + k * 2 + 1, none⟩ = some (.int .i64 (ts k)) ∧ Fr (· = w.heap.size) w7 w')
              (exact HS.out _ (by first | exact Fr.refl _ _ | exact (Fr.refl _ _).drew | exact Fr.undrew (by assumption) | assumption))
              (first
                | (go_at_call 39; refine (hmD.out _ HM.out.drew).mono ?_; rintro e w' ⟨rfl, hM1, hf⟩)
                | (go_at_call 40; refine (mxOwner _ _ _ hM1 hm1).mono ?_; rintro e w' ⟨rfl, rfl⟩)
                | (go_at_call 41; refine (mxBad _ _ _ hM1).mono ?_; rintro e w' ⟨rfl, rfl⟩)
                | (go_at_call 42; refine (mxLost _ _ _ hM1).mono ?_; rintro e w' ⟨rfl, rfl⟩))
            go_wp2_with fail
            go_meet
            exact ⟨rfl, hM1, hf.undrew⟩
          case rest =>
            obtain ⟨rfl, hM8, hF8⟩ := hcut
            have hX8 := hF8.blk HX.out (by omega)
            have hQ8 : Quiet w wc := HQ.out.trans hF8 (fun i e => .inr (by omega))
            have R : Hid (PlaysRel w len bx (.int .i64 ((k + 1 : Nat) : Int)) wc) := ⟨k + 1, ⟨o1, bad1, lost1⟩, rfl, by omega, by omega, hm1, hM8, hX8, hQ8⟩
            clear hX8 hQ8 hM8 hF8
            go_wp2_with fail
            go_roundw
            case rel => exact R.out
            case measure => simp [intOf]; omega
      · have HQ := Lib.hid hQ
        clear hX hM hQ hc hz
        go_wp2_with ((go_at_call 43; refine (mxLives _).mono ?_; rintro e w' ⟨rfl, hf⟩))
        go_ret
        exact ⟨rfl, HQ.out.quiet hf⟩
    · have HQ := Lib.hid hQ
      clear hX hM hQ hc hz
      go_wp2_with ((go_at_call 43; refine (mxLives _).mono ?_; rintro e w' ⟨rfl, hf⟩))
      go_ret
      exact ⟨rfl, HQ.out.quiet hf⟩

theorem slR_pairs {W : World} {v : Value} {l : List (Int × Int)} (h : (shL (shP shInt shInt)).rd W W.heap.size l [v]) :
    SlR W W.heap.size v 2 l.length (opC (fun i => (l.getD i (0, 0)).1) (fun i => (l.getD i (0, 0)).2)) ∧ ∀ i, i < l.length → -9223372036854775808 ≤ (l.getD i (0, 0)).2 ∧ (l.getD i (0, 0)).2 ≤ 9223372036854775807 := by
  rcases rd_pairs h with ⟨rfl, a, rfl⟩ | ⟨b, o, cap, hb, hl, hm, rfl, hi⟩
  · exact ⟨.inl ⟨rfl, a, rfl⟩, fun i hi => by simp at hi⟩
  · refine ⟨.inr ⟨b, o, cap, hb, by unfold maxLen at hm; omega, rfl, fun i j hil hj => ?_⟩, fun i hil => ?_⟩
    · obtain ⟨h0, h1, _⟩ := hi i hil
      have e : l.getD i (0, 0) = l[i] := by simp [hil]
      unfold opC
      rcases (by omega : j = 0 ∨ j = 1) with rfl | rfl
      · rw [if_pos rfl]; show _ = some (Value.int .i64 (l.getD i (0, 0)).1); rw [e]; exact h0
      · rw [if_neg (by omega)]; show _ = some (Value.int .i64 (l.getD i (0, 0)).2); rw [e]; exact h1
    · obtain ⟨_, _, _, h2⟩ := hi i hil
      have e : l.getD i (0, 0) = l[i] := by simp [hil]
      rw [e]; exact h2

/-- MutexPlays over data. -/
theorem mxPlaysW (W : World) (v : Value) (l : List (Int × Int)) (h : (shL (shP shInt shInt)).rd W W.heap.size l [v]) :
    Calls Try.prog 8 #[v] W fun e w' => e = .returned (.bool true) ∧ Quiet W w' := by
  obtain ⟨h1, h2⟩ := slR_pairs h
  exact mxPlays W v l.length _ _ h1 h2

end Go.Proofs.Ytcmfbkajafbjnaa
