/- The reference of rw, a call, and lives. -/
import Derived.Test.YtcmfbkajafbjnaaDoorRx
namespace Go.Proofs.YtcmfbkajafbjnaaDoor
open Go.RowKit
set_option linter.unusedSimpArgs false
set_option linter.unusedVariables false

theorem hasB_out (s : Nat) (t : Int) (h : ¬ vt t) : hasB s t = false := by unfold hasB; simp [h]
def Rl.v (m : Rl) : Value := .agg #[.int .u64 m.r, .int .i64 m.o]
theorem rrNew (w : World) : Calls Tryd.prog 6 #[] w fun e w' => e = .returned (.agg #[.int .u64 0, .int .i64 (-1)]) ∧ Quiet w w' := by
  go_enter Tryd.func6, Tryd.ntmps6
  go_wp2
  refine bodyPost_ret (v := .agg #[.int .u64 0, .int .i64 (-1)]) (by simp [results, Tryd.results6, go_sem]) rfl ?_
  exact ⟨rfl, by (repeat (first | exact Fr.refl _ _ | assumption | (refine Fr.quiet ?_ (by assumption)) | refine Fr.quiet ?_ HF.out | refine Fr.quiet ?_ HF2.out | refine Fr.drew ?_ | refine Fr.drewN ?_ _ | refine Fr.alloc ?_ _ | refine Fr.setCell ?_ (.inr (by first | omega | (simp; done) | (simp; omega))) _))⟩
theorem rrMode (w : World) (m : Rl) (hm : m.ok) (t : Int) : Calls Tryd.prog 14 #[.agg #[.int .u64 m.r, .int .i64 m.o], .int .i64 t] w fun e w' => e = .returned (.int .i64 (m.mode t)) ∧ Quiet w w' := by
  have hr := hm.1
  clear hm
  by_cases c0 : 0 ≤ t
  · have c0' := decide_eq_true c0
    by_cases c1 : m.o = t
    · have E : Hid (m.mode t = 2) := by unfold Hid Rl.mode; rw [if_pos ⟨c0, c1⟩]
      have c1' : (m.o == t) = true := by simpa using c1
      clear c0 c1
      go_enter Tryd.func14, Tryd.ntmps14
      go_wp2
      go_ret
      rw [E.out]; exact ⟨rfl, by (repeat (first | exact Fr.refl _ _ | assumption | (refine Fr.quiet ?_ (by assumption)) | refine Fr.quiet ?_ HF.out | refine Fr.quiet ?_ HF2.out | refine Fr.drew ?_ | refine Fr.drewN ?_ _ | refine Fr.alloc ?_ _ | refine Fr.setCell ?_ (.inr (by first | omega | (simp; done) | (simp; omega))) _))⟩
    · have E : Hid (m.mode t = if hasB m.r t then 1 else 0) := by unfold Hid Rl.mode; rw [if_neg (fun q => c1 q.2)]
      have c1' : (m.o == t) = false := by simpa using c1
      clear c0 c1
      cases c2 : hasB m.r t
      all_goals
        rw [c2] at E
        go_enter Tryd.func14, Tryd.ntmps14
        go_wp2_with (go_at_call 23; refine (rHas _ _ (by assumption) _).mono ?_; rintro e w' ⟨rfl, rfl⟩)
        go_ret
        rw [E.out]; exact ⟨rfl, by (repeat (first | exact Fr.refl _ _ | assumption | (refine Fr.quiet ?_ (by assumption)) | refine Fr.quiet ?_ HF.out | refine Fr.quiet ?_ HF2.out | refine Fr.drew ?_ | refine Fr.drewN ?_ _ | refine Fr.alloc ?_ _ | refine Fr.setCell ?_ (.inr (by first | omega | (simp; done) | (simp; omega))) _))⟩
  · have E : Hid (m.mode t = 0) := by unfold Hid Rl.mode; rw [if_neg (fun q => c0 q.1), hasB_out m.r t (by unfold vt; omega)]; simp
    have c0' := decide_eq_false c0
    have c2 : hasB m.r t = false := hasB_out m.r t (by unfold vt; omega)
    clear c0
    go_enter Tryd.func14, Tryd.ntmps14
    go_wp2_with (go_at_call 23; refine (rHas _ _ (by assumption) _).mono ?_; rintro e w' ⟨rfl, rfl⟩)
    go_ret
    rw [E.out]; exact ⟨rfl, by (repeat (first | exact Fr.refl _ _ | assumption | (refine Fr.quiet ?_ (by assumption)) | refine Fr.quiet ?_ HF.out | refine Fr.quiet ?_ HF2.out | refine Fr.drew ?_ | refine Fr.drewN ?_ _ | refine Fr.alloc ?_ _ | refine Fr.setCell ?_ (.inr (by first | omega | (simp; done) | (simp; omega))) _))⟩
theorem rrHolders (w : World) (m : Rl) (hm : m.ok) : Calls Tryd.prog 12 #[.agg #[.int .u64 m.r, .int .i64 m.o]] w fun e w' => e = .returned (.int .u64 (withB m.r m.o : Nat)) ∧ Quiet w w' := by
  have hr := hm.1
  clear hm
  go_enter Tryd.func12, Tryd.ntmps12
  go_wp2_with (go_at_call 20; refine (rWith _ _ (by assumption) _).mono ?_; rintro e w' ⟨rfl, rfl⟩)
  go_ret
  exact ⟨rfl, by (repeat (first | exact Fr.refl _ _ | assumption | (refine Fr.quiet ?_ (by assumption)) | refine Fr.quiet ?_ HF.out | refine Fr.quiet ?_ HF2.out | refine Fr.drew ?_ | refine Fr.drewN ?_ _ | refine Fr.alloc ?_ _ | refine Fr.setCell ?_ (.inr (by first | omega | (simp; done) | (simp; omega))) _))⟩
theorem rrLeave (w : World) (m : Rl) (hm : m.ok) (t : Int) : Calls Tryd.prog 19 #[.agg #[.int .u64 m.r, .int .i64 m.o], .int .i64 t] w fun e w' => e = .returned (.agg #[.int .u64 (m.leave t).r, .int .i64 (m.leave t).o]) ∧ Quiet w w' := by
  have hr := hm.1
  clear hm
  unfold Rl.leave
  by_cases c1 : m.o = t
  · rw [if_pos c1]
    have c1' : (m.o == t) = true := by simpa using c1
    clear c1
    go_enter Tryd.func19, Tryd.ntmps19
    go_wp2_with (go_at_call 28; refine (rWithout _ _ (by assumption) _).mono ?_; rintro e w' ⟨rfl, rfl⟩)
    refine bodyPost_ret (v := .agg #[.int .u64 (woutB m.r t : Nat), .int .i64 (-1)]) (by simp [results, Tryd.results19, go_sem]) rfl ?_
    exact ⟨rfl, by (repeat (first | exact Fr.refl _ _ | assumption | (refine Fr.quiet ?_ (by assumption)) | refine Fr.quiet ?_ HF.out | refine Fr.quiet ?_ HF2.out | refine Fr.drew ?_ | refine Fr.drewN ?_ _ | refine Fr.alloc ?_ _ | refine Fr.setCell ?_ (.inr (by first | omega | (simp; done) | (simp; omega))) _))⟩
  · rw [if_neg c1]
    have c1' : (m.o == t) = false := by simpa using c1
    clear c1
    go_enter Tryd.func19, Tryd.ntmps19
    go_wp2_with (go_at_call 28; refine (rWithout _ _ (by assumption) _).mono ?_; rintro e w' ⟨rfl, rfl⟩)
    refine bodyPost_ret (v := .agg #[.int .u64 (woutB m.r t : Nat), .int .i64 m.o]) (by simp [results, Tryd.results19, go_sem]) rfl ?_
    exact ⟨rfl, by (repeat (first | exact Fr.refl _ _ | assumption | (refine Fr.quiet ?_ (by assumption)) | refine Fr.quiet ?_ HF.out | refine Fr.quiet ?_ HF2.out | refine Fr.drew ?_ | refine Fr.drewN ?_ _ | refine Fr.alloc ?_ _ | refine Fr.setCell ?_ (.inr (by first | omega | (simp; done) | (simp; omega))) _))⟩
theorem rl_acts (m : Rl) (hm : m.ok) (k t : Int) : (m.act k t).1.ok := by
  obtain ⟨r, o⟩ := m
  unfold Rl.ok at hm ⊢
  simp only at hm
  have h1 := withB_lt r hm.1 t
  have h2 := woutB_lt r hm.1 t
  unfold Rl.act Rl.read Rl.write Rl.lv Rl.leave
  have hv : Rl.may ⟨r, o⟩ t = 0 → -1 ≤ t ∧ t ≤ 63 := by unfold Rl.may; split <;> omega
  split
  · split <;> simp only <;> omega
  · split
    · split
      · rename_i q; have := hv q; split <;> simp only <;> omega
      · simp only; omega
    · split
      · simp only; omega
      · split
        · simp only; omega
        · simp only; split <;> omega
set_option maxHeartbeats 4000000 in
/-- What the reference's Do comes to. -/
theorem rrDo (w : World) (m : Rl) (hm : m.ok) (k t : Int) : Calls Tryd.prog 7 #[.agg #[.int .u64 m.r, .int .i64 m.o], .agg #[.int .i64 k, .int .i64 t]] w fun e w' => e = .returned (.tuple #[.agg #[.int .u64 (m.act k t).1.r, .int .i64 (m.act k t).1.o], .int .i64 (m.act k t).2]) ∧ Quiet w w' := by
  have hr := hm.1
  have HM := Lib.hid hm; clear hm
  by_cases c0 : t < 0 ∨ 63 < t
  · have E : Hid (m.act k t = (m, 1)) := by
      have e : m.may t = 1 := by unfold Rl.may; rw [if_pos c0]
      unfold Hid Rl.act Rl.read Rl.write Rl.lv; rw [e, if_pos c0]; simp
    rw [E.out]
    by_cases c : t < 0
    · have c' := decide_eq_true c
      clear c0 c
      go_enter Tryd.func7, Tryd.ntmps7
      go_wp2
      refine bodyPost_ret (v := .tuple #[.agg #[.int .u64 m.r, .int .i64 m.o], .int .i64 1]) (by simp [results, Tryd.results7, go_sem]) rfl ?_
      exact ⟨rfl, by (repeat (first | exact Fr.refl _ _ | assumption | (refine Fr.quiet ?_ (by assumption)) | refine Fr.quiet ?_ HF.out | refine Fr.quiet ?_ HF2.out | refine Fr.drew ?_ | refine Fr.drewN ?_ _ | refine Fr.alloc ?_ _ | refine Fr.setCell ?_ (.inr (by first | omega | (simp; done) | (simp; omega))) _))⟩
    · have c' := decide_eq_false c
      have c1' : decide (63 < t) = true := decide_eq_true (by omega)
      clear c0 c
      go_enter Tryd.func7, Tryd.ntmps7
      go_wp2
      refine bodyPost_ret (v := .tuple #[.agg #[.int .u64 m.r, .int .i64 m.o], .int .i64 1]) (by simp [results, Tryd.results7, go_sem]) rfl ?_
      exact ⟨rfl, by (repeat (first | exact Fr.refl _ _ | assumption | (refine Fr.quiet ?_ (by assumption)) | refine Fr.quiet ?_ HF.out | refine Fr.quiet ?_ HF2.out | refine Fr.drew ?_ | refine Fr.drewN ?_ _ | refine Fr.alloc ?_ _ | refine Fr.setCell ?_ (.inr (by first | omega | (simp; done) | (simp; omega))) _))⟩
  have c' : decide (t < 0) = false := decide_eq_false (by omega)
  have c1' : decide (63 < t) = false := decide_eq_false (by omega)
  by_cases k01 : k = 0 ∨ k = 1
  · have k0' : (k != 0 && k != 1) = false := by simp; omega
    by_cases c2 : m.mode t = 0
    · by_cases c3 : 0 ≤ m.o
      · have e : m.may t = 7 := by unfold Rl.may; rw [if_neg c0, if_neg (by simpa using c2), if_pos c3]
        have E : Hid (m.act k t = (m, 7)) := by
          unfold Hid Rl.act Rl.read Rl.write; rw [e]; rcases k01 with rfl | rfl <;> simp
        rw [E.out]
        have M := Lib.hid (fun w => rrMode w m HM.out t)
        rw [c2] at M
        have c3' := decide_eq_true c3
        clear c0 c2 c3 e
        rcases k01 with rfl | rfl
        all_goals
          go_enter Tryd.func7, Tryd.ntmps7
          go_wp2_with (go_at_call 14; refine (M.out _).mono ?_; (rintro e w' ⟨rfl, hf⟩; obtain ⟨hc, hz⟩ := hf.rules; have hs := hf.size; simp at hs; have HF := Lib.hid hf; clear hf))
          refine bodyPost_ret (v := .tuple #[.agg #[.int .u64 m.r, .int .i64 m.o], .int .i64 7]) (by simp [results, Tryd.results7, go_sem, hc, hz] <;> omega) rfl ?_
          exact ⟨rfl, by (repeat (first | exact Fr.refl _ _ | assumption | (refine Fr.quiet ?_ (by assumption)) | refine Fr.quiet ?_ HF.out | refine Fr.quiet ?_ HF2.out | refine Fr.drew ?_ | refine Fr.drewN ?_ _ | refine Fr.alloc ?_ _ | refine Fr.setCell ?_ (.inr (by first | omega | (simp; done) | (simp; omega))) _))⟩
      · have e : m.may t = 0 := by unfold Rl.may; rw [if_neg c0, if_neg (by simpa using c2), if_neg c3]
        have M := Lib.hid (fun w => rrMode w m HM.out t)
        rw [c2] at M
        have c3' := decide_eq_false c3
        rcases k01 with rfl | rfl
        · have E : Hid (m.act 0 t = (⟨withB m.r t, m.o⟩, 0)) := by unfold Hid Rl.act Rl.read; rw [e]; simp
          rw [E.out]
          clear c0 c2 c3 e
          go_enter Tryd.func7, Tryd.ntmps7
          go_wp2_with (first | (go_at_call 14; refine (M.out _).mono ?_; (rintro e w' ⟨rfl, hf⟩; obtain ⟨hc, hz⟩ := hf.rules; have hs := hf.size; simp at hs; have HF := Lib.hid hf; clear hf); have X := HF.out.blk (((Blk.new w #[.int .u64 m.r, .int .i64 m.o] 29).alloc _).alloc _) (fun x => x); have x0 := X.cell 0; have x1 := X.cell 1; simp at x0 x1; have y0 := X.free 0; have y1 := X.free 1; clear X) | (go_at_call 20; refine (rWith _ _ (by assumption) _).mono ?_; rintro e w' ⟨rfl, rfl⟩))
          refine bodyPost_ret (v := .tuple #[.agg #[.int .u64 (withB m.r t : Nat), .int .i64 m.o], .int .i64 0]) (by simp [results, Tryd.results7, go_sem, hc, hz] <;> omega) rfl ?_
          exact ⟨rfl, by (repeat (first | exact Fr.refl _ _ | assumption | (refine Fr.quiet ?_ (by assumption)) | refine Fr.quiet ?_ HF.out | refine Fr.quiet ?_ HF2.out | refine Fr.drew ?_ | refine Fr.drewN ?_ _ | refine Fr.alloc ?_ _ | refine Fr.setCell ?_ (.inr (by first | omega | (simp; done) | (simp; omega))) _))⟩
        · by_cases c4 : m.r = 0
          · have E : Hid (m.act 1 t = (⟨m.r, t⟩, 0)) := by unfold Hid Rl.act Rl.write; rw [e]; simp [c4]
            rw [E.out]
            have c4' : ((m.r : Int) != 0) = false := by simp; omega
            clear c0 c2 c3 e c4
            go_enter Tryd.func7, Tryd.ntmps7
            go_wp2_with (first | (go_at_call 14; refine (M.out _).mono ?_; (rintro e w' ⟨rfl, hf⟩; obtain ⟨hc, hz⟩ := hf.rules; have hs := hf.size; simp at hs; have HF := Lib.hid hf; clear hf); have X := HF.out.blk (((Blk.new w #[.int .u64 m.r, .int .i64 m.o] 29).alloc _).alloc _) (fun x => x); have x0 := X.cell 0; have x1 := X.cell 1; simp at x0 x1; have y0 := X.free 0; have y1 := X.free 1; clear X))
            refine bodyPost_ret (v := .tuple #[.agg #[.int .u64 m.r, .int .i64 t], .int .i64 0]) (by simp [results, Tryd.results7, go_sem, hc, hz] <;> omega) rfl ?_
            exact ⟨rfl, by (repeat (first | exact Fr.refl _ _ | assumption | (refine Fr.quiet ?_ (by assumption)) | refine Fr.quiet ?_ HF.out | refine Fr.quiet ?_ HF2.out | refine Fr.drew ?_ | refine Fr.drewN ?_ _ | refine Fr.alloc ?_ _ | refine Fr.setCell ?_ (.inr (by first | omega | (simp; done) | (simp; omega))) _))⟩
          · have E : Hid (m.act 1 t = (m, 7)) := by unfold Hid Rl.act Rl.write; rw [e]; simp [c4]
            rw [E.out]
            have c4' : ((m.r : Int) != 0) = true := by simp; omega
            clear c0 c2 c3 e c4
            go_enter Tryd.func7, Tryd.ntmps7
            go_wp2_with (first | (go_at_call 14; refine (M.out _).mono ?_; (rintro e w' ⟨rfl, hf⟩; obtain ⟨hc, hz⟩ := hf.rules; have hs := hf.size; simp at hs; have HF := Lib.hid hf; clear hf); have X := HF.out.blk (((Blk.new w #[.int .u64 m.r, .int .i64 m.o] 29).alloc _).alloc _) (fun x => x); have x0 := X.cell 0; have x1 := X.cell 1; simp at x0 x1; have y0 := X.free 0; have y1 := X.free 1; clear X))
            refine bodyPost_ret (v := .tuple #[.agg #[.int .u64 m.r, .int .i64 m.o], .int .i64 7]) (by simp [results, Tryd.results7, go_sem, hc, hz] <;> omega) rfl ?_
            exact ⟨rfl, by (repeat (first | exact Fr.refl _ _ | assumption | (refine Fr.quiet ?_ (by assumption)) | refine Fr.quiet ?_ HF.out | refine Fr.quiet ?_ HF2.out | refine Fr.drew ?_ | refine Fr.drewN ?_ _ | refine Fr.alloc ?_ _ | refine Fr.setCell ?_ (.inr (by first | omega | (simp; done) | (simp; omega))) _))⟩
    · have e : m.may t = 8 := by unfold Rl.may; rw [if_neg c0, if_pos c2]
      have E : Hid (m.act k t = (m, 8)) := by
        unfold Hid Rl.act Rl.read Rl.write; rw [e]; rcases k01 with rfl | rfl <;> simp
      rw [E.out]
      have M := Lib.hid (fun w => rrMode w m HM.out t)
      have c2' : (m.mode t != 0) = true := by simpa using c2
      clear c0 c2 e
      rcases k01 with rfl | rfl
      all_goals
        go_enter Tryd.func7, Tryd.ntmps7
        go_wp2_with (go_at_call 14; refine (M.out _).mono ?_; (rintro e w' ⟨rfl, hf⟩; obtain ⟨hc, hz⟩ := hf.rules; have hs := hf.size; simp at hs; have HF := Lib.hid hf; clear hf))
        refine bodyPost_ret (v := .tuple #[.agg #[.int .u64 m.r, .int .i64 m.o], .int .i64 8]) (by simp [results, Tryd.results7, go_sem, hc, hz] <;> omega) rfl ?_
        exact ⟨rfl, by (repeat (first | exact Fr.refl _ _ | assumption | (refine Fr.quiet ?_ (by assumption)) | refine Fr.quiet ?_ HF.out | refine Fr.quiet ?_ HF2.out | refine Fr.drew ?_ | refine Fr.drewN ?_ _ | refine Fr.alloc ?_ _ | refine Fr.setCell ?_ (.inr (by first | omega | (simp; done) | (simp; omega))) _))⟩
  · have k0 : (k != 0) = true := by simp; omega
    have k1 : (k != 1) = true := by simp; omega
    have M := Lib.hid (fun w => rrMode w m HM.out t)
    by_cases c2 : m.mode t = 0
    · have E : Hid (m.act k t = (m, 9)) := by unfold Hid Rl.act Rl.lv; rw [if_neg (by omega), if_neg (by omega), if_neg c0, if_pos c2]
      rw [E.out]
      rw [c2] at M
      clear c0 c2 k01
      go_enter Tryd.func7, Tryd.ntmps7
      go_wp2_with (go_at_call 14; refine (M.out _).mono ?_; (rintro e w' ⟨rfl, hf⟩; obtain ⟨hc, hz⟩ := hf.rules; have hs := hf.size; simp at hs; have HF := Lib.hid hf; clear hf))
      refine bodyPost_ret (v := .tuple #[.agg #[.int .u64 m.r, .int .i64 m.o], .int .i64 9]) (by simp [results, Tryd.results7, go_sem, hc, hz] <;> omega) rfl ?_
      exact ⟨rfl, by (repeat (first | exact Fr.refl _ _ | assumption | (refine Fr.quiet ?_ (by assumption)) | refine Fr.quiet ?_ HF.out | refine Fr.quiet ?_ HF2.out | refine Fr.drew ?_ | refine Fr.drewN ?_ _ | refine Fr.alloc ?_ _ | refine Fr.setCell ?_ (.inr (by first | omega | (simp; done) | (simp; omega))) _))⟩
    · have E : Hid (m.act k t = (m.leave t, 0)) := by unfold Hid Rl.act Rl.lv; rw [if_neg (by omega), if_neg (by omega), if_neg c0, if_neg c2]
      rw [E.out]
      have c2' : (m.mode t == 0) = false := by simpa using c2
      clear c0 c2 k01
      go_enter Tryd.func7, Tryd.ntmps7
      go_wp2_with (first | (go_at_call 14; refine (M.out _).mono ?_; (rintro e w' ⟨rfl, hf⟩; obtain ⟨hc, hz⟩ := hf.rules; have hs := hf.size; simp at hs; have HF := Lib.hid hf; clear hf)) | (go_at_call 19; refine (rrLeave _ m HM.out _).mono ?_; rintro e w' ⟨rfl, hf⟩; have X := hf.blk (HF.out.blk (Blk.new _ #[.int .u64 0, .int .i64 0] 29) (fun x => x)) (fun x => x); have x0 := X.cell 0; have x1 := X.cell 1; simp at x0 x1; have y0 := X.free 0; have y1 := X.free 1; simp at y0 y1; clear X; have hs2 := hf.size; have HF2 := Lib.hid hf; clear hf hc hz))
      refine bodyPost_ret (v := .tuple #[.agg #[.int .u64 (m.leave t).r, .int .i64 (m.leave t).o], .int .i64 0]) (by simp [results, Tryd.results7, go_sem, *] <;> omega) rfl ?_
      exact ⟨rfl, by (repeat (first | exact Fr.refl _ _ | assumption | (refine Fr.quiet ?_ (by assumption)) | refine Fr.quiet ?_ HF.out | refine Fr.quiet ?_ HF2.out | refine Fr.drew ?_ | refine Fr.drewN ?_ _ | refine Fr.alloc ?_ _ | refine Fr.setCell ?_ (.inr (by first | omega | (simp; done) | (simp; omega))) _))⟩
end Go.Proofs.YtcmfbkajafbjnaaDoor
