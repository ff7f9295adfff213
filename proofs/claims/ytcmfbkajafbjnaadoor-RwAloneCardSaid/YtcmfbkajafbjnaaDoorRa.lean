/- RwAlone: the walk. -/
import Derived.Test.YtcmfbkajafbjnaaDoorRz
namespace Go.Proofs.YtcmfbkajafbjnaaDoor
open Go.RowKit
set_option linter.unusedSimpArgs false
set_option linter.unusedVariables false

def rwWant (k : Int) : Int := if k = 0 then 1 else if k = 1 then 2 else 0
theorem hasB_with (s : Nat) (t : Int) (h : vt t) : hasB (withB s t) t = true := by
  unfold hasB withB; rw [if_pos h, Nat.testBit_or, Nat.testBit_two_pow]; simp [h]
theorem hasB_without (s : Nat) (hs : s < B64) (t : Int) : hasB (woutB s t) t = false := by
  unfold woutB
  cases c : hasB s t
  · simp [c]
  · simp only [if_true]
    obtain ⟨hv, hg⟩ := hasB_ge s t c
    have q := andNot_eq s t.toNat hs (by unfold vt at hv; omega)
    have hb : s.testBit t.toNat = true := by unfold hasB at c; simp at c; exact c.2
    rw [if_pos hb] at q
    unfold hasB
    rw [← q, Nat.testBit_and]
    have hx : (18446744073709551615 - 2 ^ t.toNat).testBit t.toNat = false := by
      have := Nat.testBit_two_pow_sub_succ (x := 2 ^ t.toNat) (n := 64) (pow_lt t hv) t.toNat
      rw [show 2 ^ 64 - (2 ^ t.toNat + 1) = 18446744073709551615 - 2 ^ t.toNat by omega] at this
      rw [this, Nat.testBit_two_pow]; simp
    rw [hx]; simp
theorem may_zero (m : Rl) (t : Int) (h : m.may t = 0) : vt t ∧ m.mode t = 0 ∧ m.o < 0 := by
  unfold Rl.may at h
  by_cases a : t < 0 ∨ 63 < t
  · rw [if_pos a] at h; omega
  · rw [if_neg a] at h
    by_cases b : m.mode t ≠ 0
    · rw [if_pos b] at h; omega
    · rw [if_neg b] at h
      by_cases c : 0 ≤ m.o
      · rw [if_pos c] at h; omega
      · exact ⟨by unfold vt; omega, by omega, by omega⟩
theorem alone_mode (m : Rl) (hm : m.ok) (k t : Int) (h : (m.act k t).2 = 0) : (m.act k t).1.mode t = rwWant k := by
  unfold Rl.act at *
  unfold rwWant
  by_cases k0 : k = 0
  · rw [if_pos k0] at *
    unfold Rl.read at *
    by_cases c : m.may t = 0
    · rw [if_pos c] at *
      obtain ⟨hv, h1, h2⟩ := may_zero m t c
      unfold Rl.mode
      simp only
      rw [if_neg (by unfold vt at hv; omega), hasB_with _ _ hv]; rw [if_pos k0]; rfl
    · rw [if_neg c] at *; exact absurd h c
  · rw [if_neg k0] at *
    by_cases k1 : k = 1
    · rw [if_pos k1] at *
      unfold Rl.write at *
      by_cases c : m.may t = 0
      · rw [if_pos c] at *
        obtain ⟨hv, h1, h2⟩ := may_zero m t c
        by_cases d : m.r = 0
        · rw [if_pos d] at *
          unfold Rl.mode; simp only
          unfold vt at hv
          simp [hv.1, k1]
        · rw [if_neg d] at h; simp at h
      · rw [if_neg c] at *; exact absurd h c
    · rw [if_neg k1] at *
      unfold Rl.lv at *
      by_cases a : t < 0 ∨ 63 < t
      · rw [if_pos a] at h; simp at h
      · rw [if_neg a] at *
        by_cases b : m.mode t = 0
        · rw [if_pos b] at h; simp at h
        · rw [if_neg b] at *
          unfold Rl.leave Rl.mode; simp only
          rw [hasB_without _ hm.1]
          rw [if_neg (by split <;> omega)]; rw [if_neg k0, if_neg k1]; rfl
def Rl.lone (m : Rl) : Prop := 0 ≤ m.o → m.r = 0
theorem alone_inv (m : Rl) (hm : m.ok) (hi : m.lone) (k t : Int) : (m.act k t).1.lone := by
  unfold Rl.lone at *
  unfold Rl.act
  by_cases k0 : k = 0
  · rw [if_pos k0]; unfold Rl.read
    by_cases c : m.may t = 0
    · rw [if_pos c]; obtain ⟨hv, h1, h2⟩ := may_zero m t c; simp only; omega
    · rw [if_neg c]; exact hi
  · rw [if_neg k0]
    by_cases k1 : k = 1
    · rw [if_pos k1]; unfold Rl.write
      by_cases c : m.may t = 0
      · rw [if_pos c]
        by_cases d : m.r = 0
        · rw [if_pos d]; intro _; exact d
        · rw [if_neg d]; exact hi
      · rw [if_neg c]; exact hi
    · rw [if_neg k1]; unfold Rl.lv
      by_cases a : t < 0 ∨ 63 < t
      · rw [if_pos a]; exact hi
      · rw [if_neg a]
        by_cases b : m.mode t = 0
        · rw [if_pos b]; exact hi
        · rw [if_neg b]; unfold Rl.leave; simp only
          intro h
          have h0 : m.r = 0 := hi (by split at h <;> omega)
          rw [h0]; unfold woutB hasB; simp
theorem shl_eq2 (o : Int) (h : 0 ≤ o ∧ o ≤ 63) : ((withB 0 o : Nat) : Int) = IntKind.u64.wrap (2 ^ o.toNat) := by
  rw [shl_eq o h]
  unfold withB bit1
  have hv : vt o := h
  rw [if_pos hv, if_pos hv, Nat.zero_or]

theorem rwAt_new (w : World) : RwAt (w.alloc (.cells #[.int .u64 0, .int .u64 0] 27)) w.heap.size ⟨0, -1⟩ := Blk.new _ _ _
def RAlone (w : World) (len bl : Nat) (i : Value) (wr : World) : Prop :=
  ∃ (k : Nat) (m : Rl), i = .int .i64 k ∧ k ≤ len ∧ k ≤ 80 ∧ m.ok ∧ m.lone ∧ RwAt wr bl m ∧ Quiet w wr

set_option maxRecDepth 100000 in
set_option maxHeartbeats 4000000 in
theorem rwAlone (w : World) (hT : Tb w) (v : Value) (len : Nat) (ks ts : Nat → Int) (hv : SlR w w.heap.size v 2 len (opR ks ts)) :
    Calls Tryd.prog 4 #[v] w fun e w' => e = .returned (.bool true) ∧ Quiet w w' := by
  have HT := Lib.hid hT; clear hT
  rcases hv with ⟨rfl, av, rfl⟩ | ⟨b, o, cap, hb, hl, rfl, hc⟩
  · go_enter Tryd.func4, Tryd.ntmps4
    go_wp2
    refine wp_loop_rounds 1 ?_; rw [rounds_succ]
    go_wp2_with ((go_at_call 15; refine (rwLives _ (HT.out.quiet (by (repeat (first | exact Fr.refl _ _ | assumption | (refine Fr.quiet ?_ (by assumption)) | refine Fr.quiet ?_ HF.out | refine Fr.quiet ?_ HF2.out | refine Fr.drew ?_ | refine Fr.drewN ?_ _ | refine Fr.alloc ?_ _ | refine Fr.setCell ?_ (.inr (by first | omega | (simp; done) | (simp; omega))) _))))).mono ?_; rintro e w' ⟨rfl, hf⟩))
    go_ret
    exact ⟨rfl, by (repeat (first | exact Fr.refl _ _ | assumption | (refine Fr.quiet ?_ (by assumption)) | refine Fr.quiet ?_ HF.out | refine Fr.quiet ?_ HF2.out | refine Fr.drew ?_ | refine Fr.drewN ?_ _ | refine Fr.alloc ?_ _ | refine Fr.setCell ?_ (.inr (by first | omega | (simp; done) | (simp; omega))) _))⟩
  have HC := Lib.hid hc; clear hc
  have h0w : 0 < w.heap.size := by have := World.block_lt_of_cell? _ _ (HT.out 0 (by decide)); simpa using this
  go_enter Tryd.func4, Tryd.ntmps4
  go_wp2
  go_loopw [4] (fun i wr => RAlone w len w.heap.size i wr) (fun i _ => len - (intOf i).toNat)
  case atStart => exact ⟨0, ⟨0, -1⟩, rfl, by omega, by omega, by unfold Rl.ok; decide, fun h => by simp at h, rwAt_new w, by (repeat (first | exact Fr.refl _ _ | assumption | (refine Fr.quiet ?_ (by assumption)) | refine Fr.quiet ?_ HF.out | refine Fr.quiet ?_ HF2.out | refine Fr.drew ?_ | refine Fr.drewN ?_ _ | refine Fr.alloc ?_ _ | refine Fr.setCell ?_ (.inr (by first | omega | (simp; done) | (simp; omega))) _))⟩
  case round =>
    obtain ⟨k, m, rfl, hk1, hk2, hm, hi, hM, hQ⟩ := hrel
    have hTr := HT.out.quiet hQ
    by_cases hlt : k < len
    · by_cases h80 : k < 80
      · have hc0 : wr.cell? ⟨b, o + k * 2, none⟩ = some (.int .i64 (ks k)) := by rw [hQ.rules.1 _ _ hb]; exact HC.out k 0 hlt (by omega)
        have hc1 : wr.cell? ⟨b, o + k * 2 + 1, none⟩ = some (.int .i64 (ts k)) := by rw [hQ.rules.1 _ _ hb]; exact HC.out k 1 hlt (by omega)
        have hm1 := rl_acts m hm (ks k) (ts k)
        have hi1 := alone_inv m hm hi (ks k) (ts k)
        have hmo := alone_mode m hm (ks k) (ts k)
        have hmD := Lib.hid (rwDo wr w.heap.size m hM hm (ks k) (ts k))
        have hb' : b < wr.heap.size := Nat.lt_of_lt_of_le hb hQ.size
        have hne : b ≠ w.heap.size := by omega
        have hg0 : (0 : Nat) ≠ w.heap.size := by omega
        generalize m.act (ks k) (ts k) = r at *
        obtain ⟨m1, rv⟩ := r
        simp only at *
        have HM1 := Lib.hid hm1; have HQ := Lib.hid hQ; have HTr := Lib.hid hTr
        clear hm1 hQ hM hTr hi hm
        go_wp2_with fail
        refine hmD.out.mono ?_
        rintro e w1 ⟨rfl, h1, hf1⟩
        have hd0 : w1.cell? ⟨b, o + k * 2, none⟩ = some (.int .i64 (ks k)) := by rw [hf1.rules1.1 _ _ hb' hne]; exact hc0
        have hd1 : w1.cell? ⟨b, o + k * 2 + 1, none⟩ = some (.int .i64 (ts k)) := by rw [hf1.rules1.1 _ _ hb' hne]; exact hc1
        have hT1 : Tb w1 := HTr.out.fr hf1 hg0
        have hQ1 : Quiet w w1 := HQ.out.trans hf1 (fun i e => .inr (by omega))
        have R : Hid (∀ wz, RwAt wz w.heap.size m1 → Quiet w wz → RAlone w len w.heap.size (.int .i64 ((k + 1 : Nat) : Int)) wz) := fun wz h q => ⟨k + 1, m1, rfl, by omega, by omega, HM1.out, hi1, h, q⟩
        have HQ1 := Lib.hid hQ1
        have H1 := Lib.hid h1
        have M := Lib.hid (fun wz h t => rwMode wz w.heap.size m1 h HM1.out t)
        have Wr := Lib.hid (rwWriter w1 w.heap.size m1 h1 HM1.out hT1)
        have Rd := Lib.hid (rwReaders w1 w.heap.size m1 h1 HM1.out)
        have Ho := Lib.hid (rwHolders w1 w.heap.size m1 h1 HM1.out)
        have Mw : Hid (0 ≤ m1.o → m1.mode m1.o = 2) := fun q => by unfold Rl.mode; rw [if_pos ⟨q, rfl⟩]
        have ho := HM1.out.2
        clear hc0 hc1 h1 hf1 hT1 hQ1 hne hg0 hb'
        have MB : Hid (rv = 0 → (m1.mode (ts k) != rwWant (ks k)) = false) := fun q => by rw [hmo q]; simp
        have MO : Hid (0 ≤ m1.o → (m1.mode m1.o != 2) = false) := fun q => by unfold Rl.mode; rw [if_pos ⟨q, rfl⟩]; rfl
        have SO : Hid (0 ≤ m1.o → (((withB 0 m1.o : Nat) : Int) != IntKind.u64.wrap (2 ^ m1.o.toNat)) = false) := fun q => by rw [shl_eq2 _ ⟨q, ho.2⟩]; simp
        have hwo : 0 ≤ m1.o → m1.r = 0 := hi1
        generalize ks k = kk at *
        generalize ts k = tk at *
        clear hmo hi1 Mw
        have fin : ∀ want : Int, Hid (want = rwWant kk) → (kk = 0 ∧ want = 1 ∨ kk = 1 ∧ want = 2 ∨ (kk ≠ 0 ∧ kk ≠ 1) ∧ want = 0) := by
          intro want h
          rw [h.out]; unfold rwWant
          by_cases k0 : kk = 0
          · rw [if_pos k0]; exact .inl ⟨k0, rfl⟩
          · rw [if_neg k0]
            by_cases k1 : kk = 1
            · rw [if_pos k1]; exact .inr (.inl ⟨k1, rfl⟩)
            · rw [if_neg k1]; exact .inr (.inr ⟨⟨k0, k1⟩, rfl⟩)
        obtain ⟨want, hwant⟩ : ∃ want, Hid (want = rwWant kk) := ⟨_, rfl⟩
        have fin := fin want hwant
        have MB2 : Hid (rv = 0 → (m1.mode tk != want) = false) := fun q => by rw [hwant.out]; exact MB.out q
        clear MB hwant
        by_cases w0 : 0 ≤ m1.o
        · have hr0 := hwo w0
          have so := SO.out w0
          have mo := MO.out w0
          have w0' := decide_eq_true w0
          rw [hr0] at Rd Ho
          clear hwo hr0 SO MO
          by_cases r0 : rv = 0
          · have mb := MB2.out r0
            subst r0
            clear MB2
            rcases fin with ⟨rfl, rfl⟩ | ⟨rfl, rfl⟩ | ⟨⟨k0, k1⟩, rfl⟩
            · go_wp2_with (first
                | (go_at_call 13; refine (M.out _ (by first | exact H1.out | exact H1.out.drewN _) _).mono ?_; rintro e w' ⟨rfl, rfl⟩)
                | (go_at_call 9; refine Wr.out.mono ?_; rintro e w' ⟨rfl, rfl⟩)
                | (go_at_call 10; refine Rd.out.mono ?_; rintro e w' ⟨rfl, rfl⟩)
                | (go_at_call 11; refine Ho.out.mono ?_; rintro e w' ⟨rfl, nn, rfl⟩))
              go_roundw
              case rel => exact R.out _ (by first | exact H1.out | exact H1.out.drewN _) (by first | exact HQ1.out | exact HQ1.out.drewN _)
              case measure => simp [intOf]; omega
            · go_wp2_with (first
                | (go_at_call 13; refine (M.out _ (by first | exact H1.out | exact H1.out.drewN _) _).mono ?_; rintro e w' ⟨rfl, rfl⟩)
                | (go_at_call 9; refine Wr.out.mono ?_; rintro e w' ⟨rfl, rfl⟩)
                | (go_at_call 10; refine Rd.out.mono ?_; rintro e w' ⟨rfl, rfl⟩)
                | (go_at_call 11; refine Ho.out.mono ?_; rintro e w' ⟨rfl, nn, rfl⟩))
              go_roundw
              case rel => exact R.out _ (by first | exact H1.out | exact H1.out.drewN _) (by first | exact HQ1.out | exact HQ1.out.drewN _)
              case measure => simp [intOf]; omega
            · have k0' : (kk == 0) = false := by simpa using k0
              have k1' : (kk == 1) = false := by simpa using k1
              clear k0 k1
              go_wp2_with (first
                | (go_at_call 13; refine (M.out _ (by first | exact H1.out | exact H1.out.drewN _) _).mono ?_; rintro e w' ⟨rfl, rfl⟩)
                | (go_at_call 9; refine Wr.out.mono ?_; rintro e w' ⟨rfl, rfl⟩)
                | (go_at_call 10; refine Rd.out.mono ?_; rintro e w' ⟨rfl, rfl⟩)
                | (go_at_call 11; refine Ho.out.mono ?_; rintro e w' ⟨rfl, nn, rfl⟩))
              go_roundw
              case rel => exact R.out _ (by first | exact H1.out | exact H1.out.drewN _) (by first | exact HQ1.out | exact HQ1.out.drewN _)
              case measure => simp [intOf]; omega
          · have r0' : (rv == 0) = false := by simpa using r0
            clear r0 MB2
            rcases fin with ⟨rfl, rfl⟩ | ⟨rfl, rfl⟩ | ⟨⟨k0, k1⟩, rfl⟩
            · go_wp2_with (first
                | (go_at_call 13; refine (M.out _ (by first | exact H1.out | exact H1.out.drewN _) _).mono ?_; rintro e w' ⟨rfl, rfl⟩)
                | (go_at_call 9; refine Wr.out.mono ?_; rintro e w' ⟨rfl, rfl⟩)
                | (go_at_call 10; refine Rd.out.mono ?_; rintro e w' ⟨rfl, rfl⟩)
                | (go_at_call 11; refine Ho.out.mono ?_; rintro e w' ⟨rfl, nn, rfl⟩))
              go_roundw
              case rel => exact R.out _ (by first | exact H1.out | exact H1.out.drewN _) (by first | exact HQ1.out | exact HQ1.out.drewN _)
              case measure => simp [intOf]; omega
            · go_wp2_with (first
                | (go_at_call 13; refine (M.out _ (by first | exact H1.out | exact H1.out.drewN _) _).mono ?_; rintro e w' ⟨rfl, rfl⟩)
                | (go_at_call 9; refine Wr.out.mono ?_; rintro e w' ⟨rfl, rfl⟩)
                | (go_at_call 10; refine Rd.out.mono ?_; rintro e w' ⟨rfl, rfl⟩)
                | (go_at_call 11; refine Ho.out.mono ?_; rintro e w' ⟨rfl, nn, rfl⟩))
              go_roundw
              case rel => exact R.out _ (by first | exact H1.out | exact H1.out.drewN _) (by first | exact HQ1.out | exact HQ1.out.drewN _)
              case measure => simp [intOf]; omega
            · have k0' : (kk == 0) = false := by simpa using k0
              have k1' : (kk == 1) = false := by simpa using k1
              clear k0 k1
              go_wp2_with (first
                | (go_at_call 13; refine (M.out _ (by first | exact H1.out | exact H1.out.drewN _) _).mono ?_; rintro e w' ⟨rfl, rfl⟩)
                | (go_at_call 9; refine Wr.out.mono ?_; rintro e w' ⟨rfl, rfl⟩)
                | (go_at_call 10; refine Rd.out.mono ?_; rintro e w' ⟨rfl, rfl⟩)
                | (go_at_call 11; refine Ho.out.mono ?_; rintro e w' ⟨rfl, nn, rfl⟩))
              go_roundw
              case rel => exact R.out _ (by first | exact H1.out | exact H1.out.drewN _) (by first | exact HQ1.out | exact HQ1.out.drewN _)
              case measure => simp [intOf]; omega
        · have w0' := decide_eq_false w0
          clear hwo SO MO
          by_cases r0 : rv = 0
          · have mb := MB2.out r0
            subst r0
            clear MB2 w0
            rcases fin with ⟨rfl, rfl⟩ | ⟨rfl, rfl⟩ | ⟨⟨k0, k1⟩, rfl⟩
            · go_wp2_with (first
                | (go_at_call 13; refine (M.out _ (by first | exact H1.out | exact H1.out.drewN _) _).mono ?_; rintro e w' ⟨rfl, rfl⟩)
                | (go_at_call 9; refine Wr.out.mono ?_; rintro e w' ⟨rfl, rfl⟩)
                | (go_at_call 10; refine Rd.out.mono ?_; rintro e w' ⟨rfl, rfl⟩)
                | (go_at_call 11; refine Ho.out.mono ?_; rintro e w' ⟨rfl, nn, rfl⟩))
              go_roundw
              case rel => exact R.out _ (by first | exact H1.out | exact H1.out.drewN _) (by first | exact HQ1.out | exact HQ1.out.drewN _)
              case measure => simp [intOf]; omega
            · go_wp2_with (first
                | (go_at_call 13; refine (M.out _ (by first | exact H1.out | exact H1.out.drewN _) _).mono ?_; rintro e w' ⟨rfl, rfl⟩)
                | (go_at_call 9; refine Wr.out.mono ?_; rintro e w' ⟨rfl, rfl⟩)
                | (go_at_call 10; refine Rd.out.mono ?_; rintro e w' ⟨rfl, rfl⟩)
                | (go_at_call 11; refine Ho.out.mono ?_; rintro e w' ⟨rfl, nn, rfl⟩))
              go_roundw
              case rel => exact R.out _ (by first | exact H1.out | exact H1.out.drewN _) (by first | exact HQ1.out | exact HQ1.out.drewN _)
              case measure => simp [intOf]; omega
            · have k0' : (kk == 0) = false := by simpa using k0
              have k1' : (kk == 1) = false := by simpa using k1
              clear k0 k1
              go_wp2_with (first
                | (go_at_call 13; refine (M.out _ (by first | exact H1.out | exact H1.out.drewN _) _).mono ?_; rintro e w' ⟨rfl, rfl⟩)
                | (go_at_call 9; refine Wr.out.mono ?_; rintro e w' ⟨rfl, rfl⟩)
                | (go_at_call 10; refine Rd.out.mono ?_; rintro e w' ⟨rfl, rfl⟩)
                | (go_at_call 11; refine Ho.out.mono ?_; rintro e w' ⟨rfl, nn, rfl⟩))
              go_roundw
              case rel => exact R.out _ (by first | exact H1.out | exact H1.out.drewN _) (by first | exact HQ1.out | exact HQ1.out.drewN _)
              case measure => simp [intOf]; omega
          · have r0' : (rv == 0) = false := by simpa using r0
            clear r0 MB2 w0
            rcases fin with ⟨rfl, rfl⟩ | ⟨rfl, rfl⟩ | ⟨⟨k0, k1⟩, rfl⟩
            · go_wp2_with (first
                | (go_at_call 13; refine (M.out _ (by first | exact H1.out | exact H1.out.drewN _) _).mono ?_; rintro e w' ⟨rfl, rfl⟩)
                | (go_at_call 9; refine Wr.out.mono ?_; rintro e w' ⟨rfl, rfl⟩)
                | (go_at_call 10; refine Rd.out.mono ?_; rintro e w' ⟨rfl, rfl⟩)
                | (go_at_call 11; refine Ho.out.mono ?_; rintro e w' ⟨rfl, nn, rfl⟩))
              go_roundw
              case rel => exact R.out _ (by first | exact H1.out | exact H1.out.drewN _) (by first | exact HQ1.out | exact HQ1.out.drewN _)
              case measure => simp [intOf]; omega
            · go_wp2_with (first
                | (go_at_call 13; refine (M.out _ (by first | exact H1.out | exact H1.out.drewN _) _).mono ?_; rintro e w' ⟨rfl, rfl⟩)
                | (go_at_call 9; refine Wr.out.mono ?_; rintro e w' ⟨rfl, rfl⟩)
                | (go_at_call 10; refine Rd.out.mono ?_; rintro e w' ⟨rfl, rfl⟩)
                | (go_at_call 11; refine Ho.out.mono ?_; rintro e w' ⟨rfl, nn, rfl⟩))
              go_roundw
              case rel => exact R.out _ (by first | exact H1.out | exact H1.out.drewN _) (by first | exact HQ1.out | exact HQ1.out.drewN _)
              case measure => simp [intOf]; omega
            · have k0' : (kk == 0) = false := by simpa using k0
              have k1' : (kk == 1) = false := by simpa using k1
              clear k0 k1
              go_wp2_with (first
                | (go_at_call 13; refine (M.out _ (by first | exact H1.out | exact H1.out.drewN _) _).mono ?_; rintro e w' ⟨rfl, rfl⟩)
                | (go_at_call 9; refine Wr.out.mono ?_; rintro e w' ⟨rfl, rfl⟩)
                | (go_at_call 10; refine Rd.out.mono ?_; rintro e w' ⟨rfl, rfl⟩)
                | (go_at_call 11; refine Ho.out.mono ?_; rintro e w' ⟨rfl, nn, rfl⟩))
              go_roundw
              case rel => exact R.out _ (by first | exact H1.out | exact H1.out.drewN _) (by first | exact HQ1.out | exact HQ1.out.drewN _)
              case measure => simp [intOf]; omega
      · have HQ := Lib.hid hQ; have HTr := Lib.hid hTr
        clear hM hQ hTr hi
        go_wp2_with ((go_at_call 15; refine (rwLives _ HTr.out).mono ?_; rintro e w' ⟨rfl, hf⟩))
        go_ret
        exact ⟨rfl, HQ.out.quiet hf⟩
    · have HQ := Lib.hid hQ; have HTr := Lib.hid hTr
      clear hM hQ hTr hi
      go_wp2_with ((go_at_call 15; refine (rwLives _ HTr.out).mono ?_; rintro e w' ⟨rfl, hf⟩))
      go_ret
      exact ⟨rfl, HQ.out.quiet hf⟩
theorem rwAloneW (W : World) (hT : Tb W) (v : Value) (l : List (Int × Int)) (h : (shL (shP shInt shInt)).rd W W.heap.size l [v]) :
    Calls Tryd.prog 4 #[v] W fun e w' => e = .returned (.bool true) ∧ Quiet W w' := rwAlone W hT v l.length _ _ (slR_pairsR h)
end Go.Proofs.YtcmfbkajafbjnaaDoor
