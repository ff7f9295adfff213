/- The walks of PoolApart and PoolNil. -/
import Derived.Test.YtcmfbkajafbjnaaPw
import Derived.Deep.CutBlock
namespace Go.Proofs.Ytcmfbkajafbjnaa
open Go.RowKit Go.Proofs.YtcmfbkajafbjnaaW.PrintWords Go.Proofs.YtcmfbkajafbjnaaW.PrintLast Go.Proofs.YtcmfbkajafbjnaaW.PrintMore PPoolPlays
set_option linter.unusedSimpArgs false
set_option linter.unusedVariables false

set_option maxRecDepth 100000 in
set_option maxHeartbeats 1000000 in
theorem plNil (w : World) (t n : Int) : Calls Try.prog 12 #[.int .i64 t, .int .i64 n] w fun e w' => e = .returned (.bool true) ∧ Quiet w w' := by
  go_enter Try.func12, Try.ntmps12
  go_wp2_with (first
    | (go_at_call 35; refine (plLives _).mono ?_; rintro e w' ⟨rfl, hf⟩; have HF2 := Lib.hid hf; clear hf)
    | (go_at_call 30; refine (plNilW _).mono ?_; rintro e w' ⟨rfl, hf⟩; have HF := Lib.hid hf; clear hf)
    | go_in)
  go_ret
  exact ⟨rfl, HF.out.quiet HF2.out⟩

def ApRel2 (w w9 : World) (len : Nat) (i : Value) (wr : World) : Prop :=
  ∃ (k : Nat) (p : Pl), i = .int .i64 k ∧ k ≤ len ∧ k ≤ 30 ∧ p.ok ∧ PlAt wr w.heap.size p ∧ Fr (· = w.heap.size) w9 wr

set_option maxRecDepth 100000 in
set_option maxHeartbeats 4000000 in
theorem plApart (w : World) (total : Int) (v : Value) (len : Nat) (ks ts ns : Nat → Int) (hv : SlR w w.heap.size v 3 len (opC3 ks ts ns))
    (v' : Value) (len' : Nat) (ks' ts' ns' : Nat → Int) (hv' : SlR w w.heap.size v' 3 len' (opC3 ks' ts' ns')) :
    Calls Try.prog 11 #[.int .i64 total, v, v'] w fun e w' => e = .returned (.bool true) ∧ Quiet w w' := by
  have HV := Lib.hid hv; have HV' := Lib.hid hv'; clear hv hv'
  have hn := new_ok total
  have hnT := newT total
  have hsh : shTo (Pl.new total).hs 64 = [] := by show shTo (List.replicate 64 0) 64 = []; rfl
  have C0 := Lib.hid (plNew w total)
  have HSH := Lib.hid hsh; have HT := Lib.hid hnT; clear hsh hnT
  generalize Pl.new total = p0 at *
  go_enter Try.func11, Try.ntmps11
  go_upto_block 0 with (first
    | (go_at_call 25; refine C0.out.mono ?_; rintro e w1 ⟨rfl, h0, hf0⟩; have H0 := Lib.hid h0; have HF0 := Lib.hid hf0; have hs0 := h0.lt; clear h0 hf0)
    | (go_at_call 26; refine (logjamref20_New.calls total _ _ _ rfl).mono ?_; rintro e w2 ⟨v1, rfl, hR, hB⟩; obtain ⟨A1, c1, rfl⟩ := Kd.R_slice hR; have HR := Lib.hid (R20.of hR); have HF1 := Lib.hid (Fr.of_below (F := fun _ => False) hB); have hs1 := hB.size; clear hR hB))
  rw [← HT.out]
  generalize hbx : w2.heap.size = bx at *
  have hp2 : PlAt w2 w.heap.size p0 := HF1.out.blk H0.out (fun q => q)
  have hR2 : R20 w2 w.heap.size (.slice A1 (shTo p0.hs 64).length c1) (shTo p0.hs 64) := by
    rw [HSH.out]; exact Kd.R_lower HR.out (by omega)
  have hQ2 : Quiet w w2 := HF0.out.quiet HF1.out
  obtain ⟨w3, hw3⟩ : ∃ w3, w3 = w2.alloc (.cells #[.int .i64 p0.T, .slice A1 0 c1] 46) := ⟨_, rfl⟩
  have R0 : Hid (PoolRel w len bx (.int .i64 0) w3) := ⟨0, p0, A1, c1, rfl, by omega, by omega, hn, by rw [hw3]; exact hp2.alloc _, by rw [hw3, HSH.out, ← hbx]; exact Blk.new _ _ _, by rw [hw3]; exact hR2.fr ((Fr.refl (fun _ => False) _).alloc _) (fun _ _ q => q), by rw [hw3]; exact hQ2.alloc _⟩
  rw [← hw3]
  clear hw3 hQ2 hR2 hp2 HR HF1 HF0 H0 C0 HT HSH hn
  have hbb : w.heap.size < bx := by omega
  clear hbx hs1 hs0
  go_cut [] (fun wx => ∃ i, PoolRel w len bx i wx)
  case first =>
    rcases HV.out with ⟨rfl, av, rfl⟩ | ⟨b, o, cap, hb, hl, rfl, hc⟩
    · go_wp2_with fail
      refine wp_loop_rounds 1 ?_; rw [rounds_succ]
      go_wp2_with fail
      go_meet
      exact ⟨_, R0.out⟩
    have HC := Lib.hid hc; clear hc
    go_wp2_with fail
    go_loopw [9] (fun i wr => PoolRel w len bx i wr) (fun i _ => len - (intOf i).toNat)
    case atStart => exact R0.out
    case round =>
      clear R0
      obtain ⟨k, p, A, c, rfl, hk1, hk2, hp, hP, hX, hR, hQ⟩ := hrel
      have RX : Hid (PoolRel w len bx (.int .i64 (k : Int)) wr) := ⟨k, p, A, c, rfl, hk1, hk2, hp, hP, hX, hR, hQ⟩
      by_cases hlt : k < len
      · by_cases h60 : k < 30
        · have hne := hR.ne hX (by decide)
          have hneP := hR.ne hP (by decide)
          have hc0 : wr.cell? ⟨b, o + k * 3, none⟩ = some (.int .i64 (ks k)) := by rw [hQ.rules.1 _ _ hb]; exact HC.out k 0 hlt (by omega)
          have hc1 : wr.cell? ⟨b, o + k * 3 + 1, none⟩ = some (.int .i64 (ts k)) := by rw [hQ.rules.1 _ _ hb]; exact HC.out k 1 hlt (by omega)
          have hc2 : wr.cell? ⟨b, o + k * 3 + 2, none⟩ = some (.int .i64 (ns k)) := by rw [hQ.rules.1 _ _ hb]; exact HC.out k 2 hlt (by omega)
          have HD := Lib.hid (plDo wr w.heap.size p hP hp (ks k) (ts k) (ns k))
          have HX := Lib.hid hX; have HQ := Lib.hid hQ; have HR := Lib.hid hR; have HN := Lib.hid hne; have HNP := Lib.hid hneP
          clear hX hQ hR hne hneP hP RX
          have hp1 := pact_ok p hp (ks k) (ts k) (ns k)
          go_upto_region 6 with ((go_at_call 29; refine HD.out.mono ?_; rintro e wd ⟨rfl, hP1, hfd⟩))
          have hXd := hfd.blk HX.out (by omega)
          have hRd := R20.fr HR.out hfd (fun i q e => HNP.out (by rw [← e]; exact q))
          have hQd : Quiet w wd := HQ.out.one hfd (.inr (Nat.le_refl _))
          have hown := hRd.own
          have hneb : (Value.slice A (shTo p.hs 64).length c).ownBlock ≠ some b := fun q => by have := (hown b q).1; omega
          have hcd0 := hfd.cell hc0 (by omega); have hcd1 := hfd.cell hc1 (by omega); have hcd2 := hfd.cell hc2 (by omega)
          have hx0 := hXd.cell 0; simp at hx0
          have hx1 := hXd.cell 1; simp at hx1
          clear hc0 hc1 hc2 hfd HX HR HQ HD
          have HS : Hid (∀ w', Fr (fun i => (Value.slice A (shTo p.hs 64).length c).ownBlock = some i) wd w' → w'.cell? ⟨bx, 0, none⟩ = some (.int .i64 p.T) ∧ w'.cell? ⟨bx, 1, none⟩ = some (.slice A (shTo p.hs 64).length c) ∧ w'.cell? ⟨b, o + k * 3, none⟩ = some (.int .i64 (ks k)) ∧ w'.cell? ⟨b, o + k * 3 + 1, none⟩ = some (.int .i64 (ts k)) ∧ w'.cell? ⟨b, o + k * 3 + 2, none⟩ = some (.int .i64 (ns k)) ∧ Fr (fun i => (Value.slice A (shTo p.hs 64).length c).ownBlock = some i) wd w') :=
            fun w' q => ⟨q.cell hx0 HN.out, q.cell hx1 HN.out, q.cell hcd0 hneb, q.cell hcd1 hneb, q.cell hcd2 hneb, q⟩
          have HX := Lib.hid hXd; have HP := Lib.hid hP1; have HQ := Lib.hid hQd; have HR := Lib.hid hRd; have HO := Lib.hid (fun i q => (hown i q).2)
          clear hXd hP1 hQd hRd hown hneb
          go_cut [10, 11] (fun s8 s9 wx => ∃ (g : Nat) (A1 : Option Addr) (c1 : Nat), s8 = .pointer (some ⟨g, 0, none⟩) ∧ s9 = .int .i64 (p.act (ks k) (ts k) (ns k)).2 ∧ Blk wx g #[.int .i64 (p.act (ks k) (ts k) (ns k)).1.T, .slice A1 (shTo (p.act (ks k) (ts k) (ns k)).1.hs 64).length c1] 46 ∧
            R20 wx w.heap.size (.slice A1 (shTo (p.act (ks k) (ts k) (ns k)).1.hs 64).length c1) (shTo (p.act (ks k) (ts k) (ns k)).1.hs 64) ∧ Fr (fun i => (Value.slice A (shTo p.hs 64).length c).ownBlock = some i) wd wx)
          case first =>
            go_region_held3 (fun w' => w'.cell? ⟨bx, 0, none⟩ = some (.int .i64 p.T) ∧ w'.cell? ⟨bx, 1, none⟩ = some (.slice A (shTo p.hs 64).length c) ∧ w'.cell? ⟨b, o + k * 3, none⟩ = some (.int .i64 (ks k)) ∧ w'.cell? ⟨b, o + k * 3 + 1, none⟩ = some (.int .i64 (ts k)) ∧ w'.cell? ⟨b, o + k * 3 + 2, none⟩ = some (.int .i64 (ns k)) ∧ Fr (fun i => (Value.slice A (shTo p.hs 64).length c).ownBlock = some i) wd w')
              (exact HS.out _ (by first | exact hF1 | (repeat (first | exact Fr.refl _ _ | refine Fr.drew ?_ | refine Fr.alloc ?_ _ | exact hF1 | refine Fr.setCell ?_ (.inr (by simp)) _))))
              (first | (go_at_call 28; refine (r20Do w _ ((HQ.out.quiet (by (repeat (first | exact Fr.refl _ _ | assumption | (refine Fr.quiet ?_ (by assumption)) | refine Fr.quiet ?_ HF.out | refine Fr.quiet ?_ HF2.out | refine Fr.drew ?_ | refine Fr.drewN ?_ _ | refine Fr.alloc ?_ _ | refine Fr.setCell ?_ (.inr (by simp)) _)))).below (fun _ _ q => q)) p hp _ (HR.out.fr (F := fun _ => False) (by (repeat (first | exact Fr.refl _ _ | assumption | (refine Fr.quiet ?_ (by assumption)) | refine Fr.quiet ?_ HF.out | refine Fr.quiet ?_ HF2.out | refine Fr.drew ?_ | refine Fr.drewN ?_ _ | refine Fr.alloc ?_ _ | refine Fr.setCell ?_ (.inr (by simp)) _))) (fun _ _ q => q)) _ _ _).mono ?_; rintro e w' ⟨A1, c1, rfl, hR1, hf⟩; have hc := (hf.rulesN wd.heap.size HO.out).1; have hz := (hf.rulesN wd.heap.size HO.out).2; have hs := hf.size; simp at hs; have hF1 : Fr (fun i => (Value.slice A (shTo p.hs 64).length c).ownBlock = some i) wd w' := Fr.trans (by repeat (first | exact Fr.refl _ _ | refine Fr.drew ?_ | refine Fr.alloc ?_ _)) hf (fun i q => .inl q)))
            all_goals (go_wp2_with fail; go_meet)
            · exact ⟨_, _, _, rfl, rfl, Blk.new _ _ _, hR1.fr ((Fr.refl (fun _ => False) _).alloc _) (fun _ _ q => q), hF1.alloc _⟩
            · have hg := hf.blk ((Blk.new wd #[.int .i64 0, .slice none 0 0] 46).drew) (fun q => by have := HO.out _ q; omega)
              have hne1 := hR1.ne hg (by decide)
              refine ⟨_, _, _, rfl, rfl, by simpa using (hg.set 0 (.int .i64 (p.act (ks k) (ts k) (ns k)).1.T)).set 1 (.slice A1 (shTo (p.act (ks k) (ts k) (ns k)).1.hs 64).length c1), ?_, ?_⟩
              · exact hR1.fr (F := (· = wd.heap.size)) ((Fr.one_set _ _ _ _).one_setCell _ _) (fun i q e => hne1 (by rw [← e]; exact q))
              · exact (hF1.setCell (.inr (Nat.le_refl _)) _).setCell (.inr (Nat.le_refl _)) _
          case rest =>
            obtain ⟨g, A1, c1, rfl, rfl, hg, hR1, hF1⟩ := hcut
            have hX2 := hF1.blk HX.out HN.out
            have hP2 : PlAt wc w.heap.size (p.act (ks k) (ts k) (ns k)).1 := hF1.blk HP.out HNP.out
            have hQ2 : Quiet w wc := HQ.out.trans hF1 (fun i q => .inr (by have := (HR.out.own i q).1; omega))
            clear HS HX HP HQ HR HO HN HNP hF1 hcd0 hcd1 hcd2 hx0 hx1
            generalize (p.act (ks k) (ts k) (ns k)) = r at *
            obtain ⟨p1, rv⟩ := r
            simp only at *
            have hg0 := hg.cell 0; simp at hg0
            have hg1 := hg.cell 1; simp at hg1
            have hx0 := hX2.cell 0; simp at hx0
            have hx1 := hX2.cell 1; simp at hx1
            have f0 := hX2.free 0
            have f1 := hX2.free 1
            have hneX := hR1.ne hX2 (by decide)
            have RR : Hid (PoolRel w len bx (.int .i64 ((k + 1 : Nat) : Int)) ((wc.setCell ⟨bx, 0, none⟩ (.int .i64 p1.T)).setCell ⟨bx, 1, none⟩ (.slice A1 (shTo p1.hs 64).length c1))) := ⟨k + 1, p1, A1, c1, rfl, by omega, by omega, hp1, (Blk.set_other hP2 (by show bx ≠ _; omega) _).set_other (by show bx ≠ _; omega) _, by simpa using (hX2.set 0 (.int .i64 p1.T)).set 1 (.slice A1 (shTo p1.hs 64).length c1), hR1.fr (F := (· = bx)) ((Fr.one_set _ _ _ _).one_setCell _ _) (fun i q e => hneX (by rw [← e]; exact q)), (hQ2.setCell (.inr (by show _ ≤ bx; omega)) _).setCell (.inr (by show _ ≤ bx; omega)) _⟩
            clear hX2 hP2 hQ2 hR1 hg hneX
            go_wp2_with fail
            go_roundw
            case rel => exact RR.out
            case measure => simp [intOf]; omega
        · clear hP hX hR hQ
          go_wp2_with fail
          go_meet
          exact ⟨_, RX.out⟩
      · clear hP hX hR hQ
        go_wp2_with fail
        go_meet
        exact ⟨_, RX.out⟩
  case rest =>
    obtain ⟨_, k, p, A, c, rfl, hk1, hk2, hp, hP, hX, hR, hQ⟩ := hcut
    have HX := Lib.hid hX; have HQ := Lib.hid hQ; have HR := Lib.hid hR; have HP := Lib.hid hP
    have hpl := hP.lt
    clear hX hQ hR hP HV hk1 hk2
    go_upto_block 2 with ((go_at_call 49; refine (plClone _ _ _ HP.out hp.1).mono ?_; rintro e w9 ⟨rfl, hC9, hf9⟩))
    generalize hbc : wc.heap.size = bc at *
    have hP9 : PlAt w9 w.heap.size p := hf9.blk HP.out (fun q => q)
    have hX9 := hf9.blk HX.out (fun q => q)
    have hR9 := HR.out.fr hf9 (fun _ _ q => q)
    have hQ9 : Quiet w w9 := HQ.out.quiet hf9
    have hnx := hR9.ne hP9 (by decide)
    have HC9 := Lib.hid hC9; have HX9 := Lib.hid hX9; have HR9 := Lib.hid hR9; have HQ9 := Lib.hid hQ9; have HNX := Lib.hid hnx
    have R2 : Hid (ApRel2 w w9 len' (.int .i64 0) w9) := ⟨0, p, rfl, by omega, by omega, hp, hP9, Fr.refl _ _⟩
    clear hP9 hX9 hR9 hQ9 hf9 hC9 HP HX HR HQ hnx
    have hcb : w.heap.size < bc := by omega
    clear hbc hpl
    go_cut [] (fun wx => Fr (· = w.heap.size) w9 wx)
    case first =>
      rcases HV'.out with ⟨rfl, av, rfl⟩ | ⟨b, o, cap, hb, hl, rfl, hc⟩
      · go_wp2_with fail
        refine wp_loop_rounds 1 ?_; rw [rounds_succ]
        go_wp2_with fail
        go_meet
        exact Fr.refl _ _
      have HC := Lib.hid hc; clear hc
      go_wp2_with fail
      go_loopw [13] (fun i wr => ApRel2 w w9 len' i wr) (fun i _ => len' - (intOf i).toNat)
      case atStart => exact R2.out
      case round =>
        clear R2
        obtain ⟨k, q, rfl, hk1, hk2, hq, hP, hF⟩ := hrel
        have HF := Lib.hid hF
        by_cases hlt : k < len'
        · by_cases h60 : k < 30
          · have hQr : Quiet w wr := HQ9.out.one hF (.inr (Nat.le_refl _))
            have hc0 : wr.cell? ⟨b, o + k * 3, none⟩ = some (.int .i64 (ks' k)) := by rw [hQr.rules.1 _ _ hb]; exact HC.out k 0 hlt (by omega)
            have hc1 : wr.cell? ⟨b, o + k * 3 + 1, none⟩ = some (.int .i64 (ts' k)) := by rw [hQr.rules.1 _ _ hb]; exact HC.out k 1 hlt (by omega)
            have hc2 : wr.cell? ⟨b, o + k * 3 + 2, none⟩ = some (.int .i64 (ns' k)) := by rw [hQr.rules.1 _ _ hb]; exact HC.out k 2 hlt (by omega)
            have hp1 := pact_ok q hq (ks' k) (ts' k) (ns' k)
            have HD := Lib.hid (plDo wr w.heap.size q hP hq (ks' k) (ts' k) (ns' k))
            clear hP hF hQr
            go_wp2_with ((go_at_call 29; refine HD.out.mono ?_; rintro e wd ⟨rfl, hP1, hfd⟩; have RR : Hid (ApRel2 w w9 len' (.int .i64 ((k + 1 : Nat) : Int)) wd) := ⟨k + 1, _, rfl, by omega, by omega, hp1, hP1, HF.out.one hfd (.inl rfl)⟩; clear hP1 hfd hc0 hc1 hc2))
            go_roundw
            case rel => exact RR.out
            case measure => simp [intOf]; omega
          · clear hP hF
            go_wp2_with fail
            go_meet
            exact HF.out
        · clear hP hF
          go_wp2_with fail
          go_meet
          exact HF.out
    case rest =>
      have hF := hcut
      have hCp : PlAt wc bc p := hF.blk HC9.out (by omega)
      have hXp := hF.blk HX9.out (by omega)
      have hRp := HR9.out.fr hF (fun i q e => HNX.out (by rw [← e]; exact q))
      have hQp : Quiet w wc := HQ9.out.one hF (.inr (Nat.le_refl _))
      have hx0 := hXp.cell 0; simp at hx0
      have hx1 := hXp.cell 1; simp at hx1
      have HCp := Lib.hid hCp; have HRp := Lib.hid hRp; have HQp := Lib.hid hQp
      have HS : Hid (∀ w', Quiet wc w' → w'.cell? ⟨bx, 0, none⟩ = some (.int .i64 p.T) ∧ w'.cell? ⟨bx, 1, none⟩ = some (.slice A (shTo p.hs 64).length c) ∧ Quiet wc w') := fun w' q => ⟨q.cell hx0 (fun q => q), q.cell hx1 (fun q => q), q⟩
      have hlen : (shTo p.hs 64).length ≤ 1000 := by have := shTo_len p.hs 64; omega
      clear hF hCp hXp hRp hQp hcut R2 HV' HC9 HX9 HR9 HQ9 HNX
      go_wp2_with fail
      go_cut [6] (fun s wx => s = .bool true ∧ Quiet wc wx)
      case first =>
        go_region_held3 (fun w' => w'.cell? ⟨bx, 0, none⟩ = some (.int .i64 p.T) ∧ w'.cell? ⟨bx, 1, none⟩ = some (.slice A (shTo p.hs 64).length c) ∧ Quiet wc w')
          (exact HS.out _ (by first | exact hF1 | exact (Fr.refl _ _).drew | exact Fr.refl _ _))
          (first
            | (go_at_call 30; refine (plShares _ _ _ (Blk.drew HCp.out) hp.1).mono ?_; rintro e w' ⟨v2, rfl, hSh0, hf⟩; have hSh := R20.of hSh0; have hP1 := hf.blk (Blk.drew HCp.out) (fun q => q); have hF1 : Quiet wc w' := hf.undrew; have hR1 := R20.fr HRp.out hF1 (fun _ _ q => q))
            | (go_at_call 20; refine (sameYes _ _ _ _ hlen _ _ hSh hR1).mono ?_; rintro e w' ⟨rfl, hf⟩; replace hP1 := hf.blk hP1 (fun q => q); replace hR1 := R20.fr hR1 hf (fun _ _ q => q); replace hF1 := hF1.quiet hf)
            | (go_at_call 31; refine (plFree _ _ _ hP1).mono ?_; rintro e w' ⟨rfl, rfl⟩)
            | (go_at_call 32; refine (r20Free _ _ _ hp _ _ hR1).mono ?_; rintro e w' ⟨rfl, hf⟩; replace hP1 := hf.blk hP1 (fun q => q); replace hR1 := R20.fr hR1 hf (fun _ _ q => q); replace hF1 := hF1.quiet hf)
            | (go_at_call 27; refine (plTotal _ _ _ hP1).mono ?_; rintro e w' ⟨rfl, rfl⟩)
            | (go_at_call 35; refine (plLives _).mono ?_; rintro e w' ⟨rfl, hf⟩; replace hP1 := hf.blk hP1 (fun q => q); replace hR1 := R20.fr hR1 hf (fun _ _ q => q); replace hF1 := hF1.quiet hf))
        go_wp2_with fail
        go_meet
        exact ⟨rfl, hF1⟩
      case rest =>
        obtain ⟨rfl, hQc⟩ := hcut
        go_wp2_with fail
        go_ret
        exact ⟨rfl, HQp.out.quiet hQc⟩

/-- PoolApart over data. -/
theorem plApartW (W : World) (total : Int) (_ : -9223372036854775808 ≤ total ∧ total ≤ 9223372036854775807) (v : Value) (l : List (Int × Int × Int)) (h : (shL (shP shInt (shP shInt shInt))).rd W W.heap.size l [v])
    (v' : Value) (l' : List (Int × Int × Int)) (h' : (shL (shP shInt (shP shInt shInt))).rd W W.heap.size l' [v']) :
    Calls Try.prog 11 #[.int .i64 total, v, v'] W fun e w' => e = .returned (.bool true) ∧ Quiet W w' :=
  plApart W total v l.length _ _ _ (slR_triples h).1 v' l'.length _ _ _ (slR_triples h').1
/-- PoolNil over data. -/
theorem plNilsW (W : World) (t : Int) (_ : -9223372036854775808 ≤ t ∧ t ≤ 9223372036854775807) (n : Int) (_ : -9223372036854775808 ≤ n ∧ n ≤ 9223372036854775807) :
    Calls Try.prog 12 #[.int .i64 t, .int .i64 n] W fun e w' => e = .returned (.bool true) ∧ Quiet W w' := plNil W t n

end Go.Proofs.Ytcmfbkajafbjnaa
