/- The statements over a rw: a call, lives, RwNil, and the walks. -/
import Derived.Test.YtcmfbkajafbjnaaDoorRy
import Derived.Deep.DeepCutAuto
import Derived.Test.YtcmfbkajafbjnaaDoorShape
namespace Go.Proofs.YtcmfbkajafbjnaaDoor
open Go.RowKit
set_option linter.unusedSimpArgs false
set_option linter.unusedVariables false

/-- A call on the program's lock. -/
theorem rwDo (w : World) (b : Nat) (m : Rl) (h : RwAt w b m) (hm : m.ok) (k t : Int) :
    Calls Tryd.prog 8 #[.pointer (some ⟨b, 0, none⟩), .agg #[.int .i64 k, .int .i64 t]] w fun e w' => e = .returned (.int .i64 (m.act k t).2) ∧ RwAt w' b (m.act k t).1 ∧ Fr (· = b) w w' := by
  have H := Lib.hid (fun o => h.alloc o); clear h
  by_cases k0 : k = 0
  · have E : Hid (m.act k t = m.read t) := by unfold Rl.act Hid; rw [if_pos k0]
    subst k0
    go_enter Tryd.func8, Tryd.ntmps8
    go_wp2_with ((go_at_call 16; refine (rwRead _ b m (H.out _) hm _).mono ?_; rintro e w' ⟨rfl, hw, hf⟩; have HW := Lib.hid hw; have HF := Lib.hid hf; clear hw hf))
    go_ret
    rw [E.out]
    exact ⟨rfl, HW.out, ((Fr.refl _ _).alloc _).one HF.out (.inl rfl)⟩
  by_cases k1 : k = 1
  · have E : Hid (m.act k t = m.write t) := by unfold Rl.act Hid; rw [if_neg k0, if_pos k1]
    subst k1
    go_enter Tryd.func8, Tryd.ntmps8
    go_wp2_with ((go_at_call 17; refine (rwWrite _ b m (H.out _) hm _).mono ?_; rintro e w' ⟨rfl, hw, hf⟩; have HW := Lib.hid hw; have HF := Lib.hid hf; clear hw hf))
    go_ret
    rw [E.out]
    exact ⟨rfl, HW.out, ((Fr.refl _ _).alloc _).one HF.out (.inl rfl)⟩
  · have E : Hid (m.act k t = m.lv t) := by unfold Rl.act Hid; rw [if_neg k0, if_neg k1]
    go_enter Tryd.func8, Tryd.ntmps8
    go_wp2_with ((go_at_call 18; refine (rwLeave _ b m (H.out _) hm _).mono ?_; rintro e w' ⟨rfl, hw, hf⟩; have HW := Lib.hid hw; have HF := Lib.hid hf; clear hw hf))
    go_ret
    rw [E.out]
    exact ⟨rfl, HW.out, ((Fr.refl _ _).alloc _).one HF.out (.inl rfl)⟩
theorem rwLives (w : World) (hT : Tb w) : Calls Tryd.prog 15 #[] w fun e w' => e = .returned (.bool true) ∧ Quiet w w' := by
  have HT := Lib.hid hT; clear hT
  have hb : Hid (RwAt (w.alloc (.cells #[.int .u64 0, .int .u64 0] 27)) w.heap.size ⟨0, -1⟩) := Blk.new _ _ _
  have e1 : Rl.read ⟨0, -1⟩ 1 = (⟨2, -1⟩, 0) := by kernel_rfl
  have e2 : Rl.read ⟨2, -1⟩ 2 = (⟨6, -1⟩, 0) := by kernel_rfl
  have e3 : Rl.write ⟨6, -1⟩ 3 = (⟨6, -1⟩, 7) := by kernel_rfl
  have e4 : Rl.mode ⟨6, -1⟩ 2 = 1 := by decide
  have C1 := Lib.hid (fun w b h => rwRead w b ⟨0, -1⟩ h (by unfold Rl.ok; decide) 1)
  have C2 := Lib.hid (fun w b h => rwRead w b ⟨2, -1⟩ h (by unfold Rl.ok; decide) 2)
  have C3 := Lib.hid (fun w b h => rwWrite w b ⟨6, -1⟩ h (by unfold Rl.ok; decide) 3)
  have C4 := Lib.hid (fun w b h => rwMode w b ⟨6, -1⟩ h (by unfold Rl.ok; decide) 2)
  have C5 := Lib.hid (fun w b h => rwReaders w b ⟨6, -1⟩ h (by unfold Rl.ok; decide))
  have C6 := Lib.hid (fun w b h hT => rwWriter w b ⟨6, -1⟩ h (by unfold Rl.ok; decide) hT)
  rw [e1] at C1; rw [e2] at C2; rw [e3] at C3; rw [e4] at C4
  clear e1 e2 e3 e4
  have hlt : 0 < w.heap.size := by
    have := World.block_lt_of_cell? _ _ (HT.out 0 (by decide)); simpa using this
  go_enter Tryd.func15, Tryd.ntmps15
  go_wp2_with fail
  refine (C1.out _ _ hb.out).mono ?_
  rintro e w1 ⟨rfl, h1, f1⟩
  have H1 := Lib.hid h1; have F1 := Lib.hid f1; clear h1 f1
  go_wp2_with fail
  refine (C2.out _ _ H1.out).mono ?_
  rintro e w2 ⟨rfl, h2, f2⟩
  have H2 := Lib.hid h2; have F2 := Lib.hid f2; clear h2 f2
  go_wp2_with fail
  refine (C3.out _ _ H2.out).mono ?_
  rintro e w3 ⟨rfl, h3, f3⟩
  have hT3 : Tb w3 := ((((HT.out.quiet ((Fr.refl _ _).alloc _)).fr F1.out (by omega)).fr F2.out (by omega)).fr f3 (by omega))
  have Q3 : Quiet w w3 := ((((Fr.refl _ _).alloc _).one F1.out (.inr (Nat.le_refl _))).one F2.out (.inr (Nat.le_refl _))).one f3 (.inr (Nat.le_refl _))
  have H3 := Lib.hid h3; have HT3 := Lib.hid hT3; have HQ := Lib.hid Q3; clear h3 f3 hT3 Q3
  go_wp2_with (first
    | (go_at_call 10; refine (C5.out _ _ H3.out).mono ?_; rintro e w' ⟨rfl, rfl⟩)
    | (go_at_call 9; refine (C6.out _ _ H3.out HT3.out).mono ?_; rintro e w' ⟨rfl, rfl⟩)
    | (go_at_call 13; refine (C4.out _ _ H3.out).mono ?_; rintro e w' ⟨rfl, rfl⟩))
  go_ret
  exact ⟨rfl, HQ.out⟩
theorem rwNil (w : World) (hT : Tb w) (t : Int) : Calls Tryd.prog 5 #[.int .i64 t] w fun e w' => e = .returned (.bool true) ∧ Quiet w w' := by
  have HT := Lib.hid hT; clear hT
  go_enter Tryd.func5, Tryd.ntmps5
  go_wp2_with (first | (go_at_call 15; refine (rwLives _ HT.out).mono ?_; rintro e w' ⟨rfl, hf⟩) | go_in)
  go_ret
  exact ⟨rfl, hf⟩

def opR (ks ts : Nat → Int) (i j : Nat) : Value := if j = 0 then .int .i64 (ks i) else .int .i64 (ts i)
def RPlays (w : World) (len bl bx : Nat) (i : Value) (wr : World) : Prop :=
  ∃ (k : Nat) (m : Rl), i = .int .i64 k ∧ k ≤ len ∧ k ≤ 80 ∧ m.ok ∧ RwAt wr bl m ∧ Blk wr bx #[.int .u64 m.r, .int .i64 m.o] 29 ∧ Quiet w wr

set_option maxRecDepth 100000 in
set_option maxHeartbeats 4000000 in
theorem rwPlays (w : World) (hT : Tb w) (v : Value) (len : Nat) (ks ts : Nat → Int) (hv : SlR w w.heap.size v 2 len (opR ks ts)) (t : Int) :
    Calls Tryd.prog 3 #[v, .int .i64 t] w fun e w' => e = .returned (.bool true) ∧ Quiet w w' := by
  have HT := Lib.hid hT; clear hT
  rcases hv with ⟨rfl, av, rfl⟩ | ⟨b, o, cap, hb, hl, rfl, hc⟩
  · go_enter Tryd.func3, Tryd.ntmps3
    go_wp2_with ((go_at_call 6; refine (rrNew _).mono ?_; rintro e w' ⟨rfl, hf⟩; have HF := Lib.hid hf; clear hf))
    refine wp_loop_rounds 1 ?_; rw [rounds_succ]
    go_wp2_with ((go_at_call 15; refine (rwLives _ (HT.out.quiet (by (repeat (first | exact Fr.refl _ _ | assumption | (refine Fr.quiet ?_ (by assumption)) | refine Fr.quiet ?_ HF.out | refine Fr.quiet ?_ HF2.out | refine Fr.drew ?_ | refine Fr.drewN ?_ _ | refine Fr.alloc ?_ _ | refine Fr.setCell ?_ (.inr (by first | omega | (simp; done) | (simp; omega))) _))))).mono ?_; rintro e w' ⟨rfl, hf⟩))
    go_ret
    exact ⟨rfl, by (repeat (first | exact Fr.refl _ _ | assumption | (refine Fr.quiet ?_ (by assumption)) | refine Fr.quiet ?_ HF.out | refine Fr.quiet ?_ HF2.out | refine Fr.drew ?_ | refine Fr.drewN ?_ _ | refine Fr.alloc ?_ _ | refine Fr.setCell ?_ (.inr (by first | omega | (simp; done) | (simp; omega))) _))⟩
  have HC := Lib.hid hc; clear hc
  go_enter Tryd.func3, Tryd.ntmps3
  go_wp2_with ((go_at_call 6; refine (rrNew _).mono ?_; rintro e w' ⟨rfl, hf⟩; have hs := hf.size; simp at hs; have HF := Lib.hid hf; clear hf))
  generalize hbx : w'.heap.size = bx at *
  go_loopw [7] (fun i wr => RPlays w len w.heap.size bx i wr) (fun i _ => len - (intOf i).toNat)
  case atStart =>
    subst hbx
    refine ⟨0, ⟨0, -1⟩, rfl, by omega, by omega, by unfold Rl.ok; decide, ?_, Blk.new _ _ _, ?_⟩
    · refine Blk.alloc ?_ _
      exact HF.out.blk (Blk.new _ _ _) (fun q => q)
    · (repeat (first | exact Fr.refl _ _ | assumption | (refine Fr.quiet ?_ (by assumption)) | refine Fr.quiet ?_ HF.out | refine Fr.quiet ?_ HF2.out | refine Fr.drew ?_ | refine Fr.drewN ?_ _ | refine Fr.alloc ?_ _ | refine Fr.setCell ?_ (.inr (by first | omega | (simp; done) | (simp; omega))) _))
  case round =>
    obtain ⟨k, m, rfl, hk1, hk2, hm, hM, hX, hQ⟩ := hrel
    have hTr := HT.out.quiet hQ
    by_cases hlt : k < len
    · by_cases h80 : k < 80
      · have hc0 : wr.cell? ⟨b, o + k * 2, none⟩ = some (.int .i64 (ks k)) := by rw [hQ.rules.1 _ _ hb]; exact HC.out k 0 hlt (by omega)
        have hc1 : wr.cell? ⟨b, o + k * 2 + 1, none⟩ = some (.int .i64 (ts k)) := by rw [hQ.rules.1 _ _ hb]; exact HC.out k 1 hlt (by omega)
        have hx0 := hX.cell 0; simp at hx0
        have hx1 := hX.cell 1; simp at hx1
        have hXl := hX.lt
        have HS : Hid (∀ w', Quiet wr w' → w'.cell? ⟨bx, 0, none⟩ = some (.int .u64 m.r) ∧ w'.cell? ⟨bx, 1, none⟩ = some (.int .i64 m.o) ∧ w'.cell? ⟨b, o + k * 2, none⟩ = some (.int .i64 (ks k)) ∧ w'.cell? ⟨b, o + k * 2 + 1, none⟩ = some (.int .i64 (ts k)) ∧ Quiet wr w') := by
          intro w' q
          have hb' : b < wr.heap.size := Nat.lt_of_lt_of_le hb hQ.size
          rw [q.rules.1 _ _ hXl, q.rules.1 _ _ hXl, q.rules.1 _ _ hb', q.rules.1 _ _ hb']
          exact ⟨hx0, hx1, hc0, hc1, q⟩
        have HX := Lib.hid hX; have HM := Lib.hid hM; have HQ := Lib.hid hQ; have HTr := Lib.hid hTr; clear hX hM hQ hTr
        go_wp2_with fail
        go_cut [8, 9] (fun s8 s9 wx => ∃ g : Nat, s8 = .pointer (some ⟨g, 0, none⟩) ∧ s9 = .int .i64 (m.act (ks k) (ts k)).2 ∧ Blk wx g #[.int .u64 (m.act (ks k) (ts k)).1.r, .int .i64 (m.act (ks k) (ts k)).1.o] 29 ∧ Quiet wr wx)
        case first =>
          go_region_held3 (fun w' => w'.cell? ⟨bx, 0, none⟩ = some (.int .u64 m.r) ∧ w'.cell? ⟨bx, 1, none⟩ = some (.int .i64 m.o) ∧ w'.cell? ⟨b, o + k * 2, none⟩ = some (.int .i64 (ks k)) ∧ w'.cell? ⟨b, o + k * 2 + 1, none⟩ = some (.int .i64 (ts k)) ∧ Quiet wr w')
            (exact HS.out _ (by (repeat (first | exact Fr.refl _ _ | assumption | (refine Fr.quiet ?_ (by assumption)) | refine Fr.quiet ?_ HF.out | refine Fr.quiet ?_ HF2.out | refine Fr.drew ?_ | refine Fr.drewN ?_ _ | refine Fr.alloc ?_ _ | refine Fr.setCell ?_ (.inr (by first | omega | (simp; done) | (simp; omega))) _))))
            (first | (go_at_call 7; refine (rrDo _ m hm _ _).mono ?_; rintro e w' ⟨rfl, hf⟩; have hc := hf.rules.1; have hz := hf.rules.2; have hs := hf.size; simp at hs))
          all_goals (go_wp2_with fail; go_meet)
          · exact ⟨_, rfl, rfl, Blk.new _ _ _, by (repeat (first | exact Fr.refl _ _ | assumption | (refine Fr.quiet ?_ (by assumption)) | refine Fr.quiet ?_ HF.out | refine Fr.quiet ?_ HF2.out | refine Fr.drew ?_ | refine Fr.drewN ?_ _ | refine Fr.alloc ?_ _ | refine Fr.setCell ?_ (.inr (by first | omega | (simp; done) | (simp; omega))) _))⟩
          · refine ⟨_, rfl, rfl, ?_, by (repeat (first | exact Fr.refl _ _ | assumption | (refine Fr.quiet ?_ (by assumption)) | refine Fr.quiet ?_ HF.out | refine Fr.quiet ?_ HF2.out | refine Fr.drew ?_ | refine Fr.drewN ?_ _ | refine Fr.alloc ?_ _ | refine Fr.setCell ?_ (.inr (by first | omega | (simp; done) | (simp; omega))) _))⟩
            have q := ((hf.blk ((Blk.new wr _ _).drew) (fun q => q)).set 0 (.int .u64 (m.act (ks k) (ts k)).1.r)).set 1 (.int .i64 (m.act (ks k) (ts k)).1.o)
            simpa using q
        case rest =>
          obtain ⟨g, rfl, rfl, hg, hQ2⟩ := hcut
          clear HS
          have hm1 := rl_acts m hm (ks k) (ts k)
          have hM2 := hQ2.blk HM.out (fun q => q)
          have hX2 := hQ2.blk HX.out (fun q => q)
          have hQ3 : Quiet w wc := HQ.out.quiet hQ2
          have hmD := Lib.hid (fun w' h => rwDo w' w.heap.size m h hm (ks k) (ts k))
          clear hc0 hc1 hx0 hx1
          generalize m.act (ks k) (ts k) = r at *
          obtain ⟨m1, rv⟩ := r
          simp only at *
          have hg0 := hg.cell 0; simp at hg0
          have hg1 := hg.cell 1; simp at hg1
          have hx0 := hX2.cell 0; simp at hx0
          have hx1 := hX2.cell 1; simp at hx1
          have f0 := hX2.free 0
          have f1 := hX2.free 1
          have hX7 : Blk ((wc.setCell ⟨bx, 0, none⟩ (.int .u64 m1.r)).setCell ⟨bx, 1, none⟩ (.int .i64 m1.o)) bx #[.int .u64 m1.r, .int .i64 m1.o] 29 := by simpa using (hX2.set 0 (.int .u64 m1.r)).set 1 (.int .i64 m1.o)
          have hM7 : RwAt ((wc.setCell ⟨bx, 0, none⟩ (.int .u64 m1.r)).setCell ⟨bx, 1, none⟩ (.int .i64 m1.o)) w.heap.size m := (Blk.set_other hM2 (by show bx ≠ _; omega) _).set_other (by show bx ≠ _; omega) _
          have hQ7 : Quiet w ((wc.setCell ⟨bx, 0, none⟩ (.int .u64 m1.r)).setCell ⟨bx, 1, none⟩ (.int .i64 m1.o)) := (hQ3.setCell (.inr (by show _ ≤ bx; omega)) _).setCell (.inr (by show _ ≤ bx; omega)) _
          have HX := Lib.hid hX7; have HM := Lib.hid hM7; have HQ := Lib.hid hQ7; clear hX7 hM7 hQ7 hX2 hM2 hQ2 hQ3 hg
          go_wp2_with fail
          generalize ((wc.setCell ⟨bx, 0, none⟩ (.int .u64 m1.r)).setCell ⟨bx, 1, none⟩ (.int .i64 m1.o)) = w7 at *
          clear hg0 hg1 hx0 hx1 f0 f1
          have hT7 := HT.out.quiet HQ.out
          have HS : Hid (∀ w', Fr (· = w.heap.size) w7 w' → w'.cell? ⟨bx, 0, none⟩ = some (.int .u64 m1.r) ∧ w'.cell? ⟨bx, 1, none⟩ = some (.int .i64 m1.o) ∧ w'.cell? ⟨b, o + k * 2, none⟩ = some (.int .i64 (ks k)) ∧ w'.cell? ⟨b, o + k * 2 + 1, none⟩ = some (.int .i64 (ts k)) ∧ Fr (· = w.heap.size) w7 w') := by
            intro w' q
            have hX := HX.out
            have hXl := hX.lt
            have hb' : b < w7.heap.size := Nat.lt_of_lt_of_le hb HQ.out.size
            have e0 := hX.cell 0; have e1 := hX.cell 1
            simp at e0 e1
            have hc0 : w7.cell? ⟨b, o + k * 2, none⟩ = some (.int .i64 (ks k)) := by rw [HQ.out.rules.1 _ _ hb]; exact HC.out k 0 hlt (by omega)
            have hc1 : w7.cell? ⟨b, o + k * 2 + 1, none⟩ = some (.int .i64 (ts k)) := by rw [HQ.out.rules.1 _ _ hb]; exact HC.out k 1 hlt (by omega)
            rw [q.rules1.1 _ _ hXl (by omega), q.rules1.1 _ _ hXl (by omega), q.rules1.1 _ _ hb' (by omega), q.rules1.1 _ _ hb' (by omega)]
            exact ⟨e0, e1, hc0, hc1, q⟩
          have HT7 := Lib.hid hT7; clear hT7
          have h0w : 0 < w.heap.size := by have := World.block_lt_of_cell? _ _ (HT.out 0 (by decide)); simpa using this
          go_cut [87] (fun s wx => s = .bool false ∧ RwAt wx w.heap.size m1 ∧ Fr (· = w.heap.size) w7 wx)
          case first =>
            go_region_held3 (fun w' => w'.cell? ⟨bx, 0, none⟩ = some (.int .u64 m1.r) ∧ w'.cell? ⟨bx, 1, none⟩ = some (.int .i64 m1.o) ∧ w'.cell? ⟨b, o + k * 2, none⟩ = some (.int .i64 (ks k)) ∧ w'.cell? ⟨b, o + k * 2 + 1, none⟩ = some (.int .i64 (ts k)) ∧ Fr (· = w.heap.size) w7 w')
              (exact HS.out _ (by first | exact Fr.refl _ _ | exact (Fr.refl _ _).drew | exact HF1.out | exact HF1.out.drewN _ | exact HF1.out.drew))
              (first
                | (go_at_call 8; refine (hmD.out _ HM.out.drew).mono ?_; rintro e w' ⟨rfl, hM1, hf⟩; have HT1 := Lib.hid (HT7.out.fr hf.undrew (by show ¬ (_ = _); omega)); have HM1 := Lib.hid hM1; have HF1 := Lib.hid hf.undrew; clear hM1 hf)
                | (go_at_call 9; refine (rwWriter _ _ _ HM1.out hm1 HT1.out).mono ?_; rintro e w' ⟨rfl, rfl⟩)
                | (go_at_call 10; refine (rwReaders _ _ _ HM1.out hm1).mono ?_; rintro e w' ⟨rfl, rfl⟩)
                | (go_at_call 11; refine (rwHolders _ _ _ HM1.out hm1).mono ?_; rintro e w' ⟨rfl, nn, rfl⟩)
                | (go_at_call 13; refine (rwMode _ _ _ (by first | exact HM1.out | exact HM1.out.drewN _) hm1 _).mono ?_; rintro e w' ⟨rfl, rfl⟩)
                | (go_at_call 12; refine (rrHolders _ _ hm1).mono ?_; rintro e w' ⟨rfl, hf⟩; replace HM1 := Lib.hid (hf.blk (by first | exact HM1.out | exact HM1.out.drewN _) (fun q => q)); replace HF1 := Lib.hid (Fr.quiet (by first | exact HF1.out | exact HF1.out.drewN _) hf); clear hf)
                | (go_at_call 14; refine (rrMode _ _ hm1 _).mono ?_; rintro e w' ⟨rfl, hf⟩; replace HM1 := Lib.hid (hf.blk (by first | exact HM1.out | exact HM1.out.drewN _) (fun q => q)); replace HF1 := Lib.hid (Fr.quiet (by first | exact HF1.out | exact HF1.out.drewN _) hf); clear hf))
            go_wp2_with fail
            go_meet
            exact ⟨rfl, HM1.out, HF1.out⟩
          case rest =>
            obtain ⟨rfl, hM8, hF8⟩ := hcut
            have hX8 := hF8.blk HX.out (by omega)
            have hQ8 : Quiet w wc := HQ.out.trans hF8 (fun i e => .inr (by omega))
            have R : Hid (RPlays w len w.heap.size bx (.int .i64 ((k + 1 : Nat) : Int)) wc) := ⟨k + 1, m1, rfl, by omega, by omega, hm1, hM8, hX8, hQ8⟩
            clear hX8 hQ8 hM8 hF8
            go_wp2_with fail
            go_roundw
            case rel => exact R.out
            case measure => simp [intOf]; omega
      · have HQ := Lib.hid hQ; have HTr := Lib.hid hTr
        clear hX hM hQ hTr
        go_wp2_with ((go_at_call 15; refine (rwLives _ HTr.out).mono ?_; rintro e w' ⟨rfl, hf⟩))
        go_ret
        exact ⟨rfl, HQ.out.quiet hf⟩
    · have HQ := Lib.hid hQ; have HTr := Lib.hid hTr
      clear hX hM hQ hTr
      go_wp2_with ((go_at_call 15; refine (rwLives _ HTr.out).mono ?_; rintro e w' ⟨rfl, hf⟩))
      go_ret
      exact ⟨rfl, HQ.out.quiet hf⟩
end Go.Proofs.YtcmfbkajafbjnaaDoor
