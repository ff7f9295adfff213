/- Package cell: the walk of CellPlays. -/
import Derived.Test.YtcmfbkajafbjnaaCh
import Derived.BigQuiet
import Derived.Deep.QuietTactic
namespace Go.Proofs.Ytcmfbkajafbjnaa
open Go.RowKit Go.Proofs.YtcmfbkajafbjnaaW.PrintWords Go.Proofs.YtcmfbkajafbjnaaW.PrintLast Go.Proofs.YtcmfbkajafbjnaaW.PrintMore PCellPlays
set_option linter.unusedSimpArgs false
set_option linter.unusedVariables false

theorem CeAt.quiet {w w' : World} {b base : Nat} {l : List (Int × Int × Int)} (h : CeAt w b base l) (q : Quiet w w') : CeAt w' b base l := by
  obtain ⟨v, q1, q2⟩ := h
  exact ⟨v, q.blk q1 (fun x => x), Fr.owns q2 q (fun _ _ x => x)⟩
theorem CeAt.drew {w : World} {b base : Nat} {l : List (Int × Int × Int)} (h : CeAt w b base l) : CeAt w.drew b base l := by
  obtain ⟨v, q1, q2⟩ := h
  exact ⟨v, q1.drew, q2.drew⟩
theorem D22.at {w : World} {A : Option Addr} {c : Nat} {d : List De22} (h : D22 w (.slice A d.length c) d) (i : Nat) (hi : i < d.length) :
    ∃ g o, A = some ⟨g, o, none⟩ ∧ g < w.heap.size ∧ w.cell? ⟨g, o + i * 3 + 2, none⟩ = some (.int .i64 (db d i)) := by
  obtain ⟨A', c', e, hc, hC, hA⟩ := h
  simp only [Value.slice.injEq, true_and] at e
  obtain ⟨rfl, rfl⟩ := e
  obtain ⟨g, o, rfl, hg⟩ := hA (fun q => by subst q; simp at hi)
  obtain ⟨ad, e, h1, h2, h3⟩ := at_T41 hC i (by omega) (by omega)
  simp only [Option.some.injEq] at e
  subst e
  have ea : (⟨g, o, none⟩ : Addr).add ((i : Int).toNat * 3) = ⟨g, o + i * 3, none⟩ := by
    rw [addr_add]; simp
  rw [ea] at h3
  exact ⟨g, o, rfl, hg, h3⟩
theorem R22.at {w : World} {base : Nat} {A : Option Addr} {c : Nat} {l : List (Int × Int × Int)} (h : R22 w base (.slice A (allL l).length c) (allL l)) (i : Nat) (hi : i < l.length) :
    ∃ g, A = some ⟨g, 0, none⟩ ∧ g < w.heap.size ∧ w.cell? ⟨g, i * 2 + 1, none⟩ = some (.int .i64 l[i].2.2) := by
  obtain ⟨A', c', e, hc, hC⟩ := h.reads
  obtain ⟨inner, ho⟩ := Kd.R_own h
  have hl := allL_len l
  rcases ho.2 with ⟨_, hn⟩ | ⟨g, cap, cur, e2, _⟩
  · omega
  · simp only [Value.slice.injEq, true_and] at e e2
    obtain ⟨rfl, rfl⟩ := e
    obtain ⟨rfl, rfl⟩ := e2
    obtain ⟨ad, e, h1, h2⟩ := at_T31 hC i (by omega) (by omega)
    simp only [Option.some.injEq] at e
    subst e
    have ea : (⟨g, 0, none⟩ : Addr).add ((i : Int).toNat * 2) = ⟨g, i * 2, none⟩ := by
      rw [addr_add]; simp
    rw [ea, rd_allL l i hi] at h2
    exact ⟨g, rfl, (ho.lt g rfl).2, h2⟩
theorem cSet_fI (t n : Int) (l : List (Int × Int × Int)) : ((cSet t n l).2 = false ∧ fI t l = -1) ∨ ∃ i : Nat, (cSet t n l).2 = true ∧ fI t l = i := by
  unfold cSet fI
  cases fidx t l with
  | none => exact .inl ⟨rfl, rfl⟩
  | some i => exact .inr ⟨i, rfl, rfl⟩

def Plays22 (w1 : World) (D : List De22) (bc L len : Nat) (s8 i : Value) (wr : World) : Prop :=
  ∃ (k : Nat) (l : List (Int × Int × Int)) (A : Option Addr) (c bx : Nat), i = .int .i64 k ∧ k ≤ len ∧ k ≤ 40 ∧ s8 = .slice A (allL l).length c ∧ R22 wr bx (.slice A (allL l).length c) (allL l) ∧ l.length = L ∧ CeAt wr bc bc l ∧ GOK D l ∧ Quiet w1 wr

set_option maxRecDepth 100000 in
set_option maxHeartbeats 4000000 in
theorem cePlays (w : World) (v0 v1 : Value) (d : List De22) (hD : D22 w v0 d) (len : Nat) (ts ns : Nat → Int) (hv : SlR w w.heap.size v1 2 len (opS ts ns)) (obj : Int) :
    Calls Try.prog 4 #[v0, v1, .int .i64 obj] w fun e w' => e = .returned (.bool true) ∧ Quiet w w' := by
  have F0 := Lib.hid (few22 w v0 d hD)
  have hd60 : (d.take 60).length ≤ 60 := by simp; omega
  have hd2 : (d.take 60).take 60 = d.take 60 := List.take_of_length_le hd60
  go_enter Try.func4, Try.ntmps4
  go_wp2_with fail
  refine F0.out.mono ?_
  rintro e w1 ⟨A1, c1, rfl, hD1, hf1⟩
  generalize d.take 60 = D at *
  have HD := Lib.hid hD1
  have HQ1 := Lib.hid hf1
  have F1 := Lib.hid (few22 w1 _ D hD1)
  rw [hd2] at F1
  go_wp2_with fail
  refine F1.out.mono ?_
  rintro e w2 ⟨A2, c2, rfl, hD2, hf2⟩
  have F2 := Lib.hid (ceNewD w2 _ D hd60 hD2)
  go_wp2_with fail
  refine F2.out.mono ?_
  rintro e w3 ⟨rfl, hC3, hf3⟩
  have F3 := Lib.hid (rNew22 w3 _ D hd60 ((hD1.quiet hf2).quiet hf3))
  go_wp2_with fail
  refine F3.out.mono ?_
  rintro e w4 ⟨A, c, rfl, hR4, hf4⟩
  have hC4 := hC3.quiet hf4
  have hQ4 : Quiet w1 w4 := (hf2.quiet hf3).quiet hf4
  have hgk0 := gok_new D D.length (Nat.le_refl _)
  have hl := newOf_len D
  have hbc : w1.heap.size ≤ w2.heap.size := hf2.size
  change GOK D (newOf D) at hgk0
  generalize newOf D = l0 at *
  have hl60 : l0.length ≤ 1000 := by omega
  clear hD1 hD2 hf1 hf2 hf3 hf4 hC3 F0 F1 F2 F3 hD
  generalize w2.heap.size = bc at *
  have FA := Lib.hid (ceAll hC4 hl60)
  have HR4 := Lib.hid hR4; have HC4 := Lib.hid hC4; have HQ4 := Lib.hid hQ4; have HG0 := Lib.hid hgk0
  clear hR4 hC4 hQ4 hgk0
  go_wp2_with (first
    | (go_at_call 21; refine FA.out.mono ?_; rintro e w5 ⟨v5, rfl, hR5, hf5⟩; have HR5 := Lib.hid (R22.of hR5); have HF5 := Lib.hid hf5; clear hR5 hf5)
    | (go_at_call 20; refine (sameYes22 _ _ _ _ (by rw [allL_len]; exact hl60) _ _ HR5.out (HR4.out.fr HF5.out (fun _ _ q => q))).mono ?_; rintro e w6 ⟨rfl, hf6⟩; have HF6 := Lib.hid hf6; clear hf6))
  have hC6 := (HC4.out.quiet HF5.out).quiet HF6.out
  have hR6 := (HR4.out.fr HF5.out (fun _ _ q => q)).fr HF6.out (fun _ _ q => q)
  have hQ6 := (HQ4.out.quiet HF5.out).quiet HF6.out
  clear HC4 HR4 HQ4 HR5 HF5 HF6 FA
  rcases hv with ⟨rfl, av, rfl⟩ | ⟨b, o, cap, hb, hlen, rfl, hc⟩
  · refine wp_loop_rounds 1 ?_; rw [rounds_succ]
    have hCx := hC6; have hQx := hQ6; have hRx := hR6; have hlx := hl60; have hgk := HG0.out
    generalize w3.heap.size = bx at *
    clear hC6 hQ6 hR6
    generalize l0 = l at *
    have HCx := Lib.hid hCx; have HQx := Lib.hid hQx; have HRx := Lib.hid hRx
    have GT := Lib.hid (ceGet hCx hlx obj)
    have GU := Lib.hid (fun (wz : World) (h : CeAt wz bc bc l) => ceGuard h hlx obj)
    have RF := Lib.hid (fun (wz : World) (h : R22 wz bx (.slice A (allL l).length c) (allL l)) => rFind22 wz bx A c l hlx h obj)
    cases hfi : fidx obj l with
    | none =>
      have E1 : cGet obj l = (0, false) := by unfold cGet; rw [hfi]
      have E2 : cGuard obj l = -1 := by unfold cGuard; rw [hfi]
      have E3 : fI obj l = -1 := by unfold fI; rw [hfi]
      rw [E1] at GT; rw [E2] at GU; rw [E3] at RF
      clear E1 E2 E3 hfi hCx hQx hRx hgk
      go_wp2_with (first
        | (go_at_call 15; refine GT.out.mono ?_; rintro e w8 ⟨rfl, rfl⟩)
        | (go_at_call 22; refine (RF.out _ HRx.out).mono ?_; rintro e w9 ⟨rfl, hf9⟩; have HF9 := Lib.hid hf9; clear hf9)
        | (go_at_call 24; refine (GU.out _ (HCx.out.quiet HF9.out)).mono ?_; rintro e w10 ⟨rfl, rfl⟩)
        | (go_at_call 18; refine (ceLives _).mono ?_; rintro e w11 ⟨rfl, hf11⟩))
      go_ret
      exact ⟨rfl, ((HQ1.out.quiet HQx.out).quiet HF9.out).quiet hf11⟩
    | some i =>
      obtain ⟨hli, hxi⟩ := fidx_lt obj l i hfi
      obtain ⟨kk, hkk, hk1, hk2⟩ := hgk l[i] (List.getElem_mem hli)
      obtain rfl : obj = kk := hxi.symm.trans hk1
      have E1 : cGet kk l = (l[i].2.2, true) := by unfold cGet; rw [hfi]; simp only [cAt_lt l i hli]
      have E2 : cGuard kk l = db D kk := by unfold cGuard; rw [hfi]; simp only [cAt_lt l i hli]; exact hk2
      have E3 : fI kk l = i := by unfold fI; rw [hfi]
      rw [E1] at GT; rw [E2] at GU; rw [E3] at RF
      obtain ⟨gd, od, rfl, hgd, hdc⟩ := (HD.out.quiet hQx).at kk hkk
      obtain ⟨gx, rfl, hgx, hxc⟩ := hRx.at i hli
      clear E1 E2 E3 hfi hCx hQx hRx hgk hxi hk1 hk2
      have hi0 : 0 ≤ (i : Int) := by omega
      have hi1 : (i : Int) < ((allL l).length : Int) := by rw [allL_len]; omega
      have hk0 : 0 ≤ (kk : Int) := by omega
      have hk1 : (kk : Int) < (D.length : Int) := by omega
      generalize l[i].2.2 = xv at *
      generalize db D kk = gv at *
      go_wp2_with (first
        | (go_at_call 15; refine GT.out.mono ?_; rintro e w8 ⟨rfl, rfl⟩)
        | (go_at_call 22; refine (RF.out _ HRx.out).mono ?_; rintro e w9 ⟨rfl, hf9⟩; replace hxc := hf9.cell hxc (fun q => q); replace hdc := hf9.cell hdc (fun q => q); have HF9 := Lib.hid hf9; clear hf9))
      go_wp2_with fail
      go_quiet (fail)
      go_wp2_with (first
        | (go_at_call 24; refine (GU.out _ (HCx.out.quiet (by first | exact HF9.out.drewN _ | exact HF9.out.drew | exact HF9.out))).mono ?_; rintro e w10 ⟨rfl, rfl⟩)
        | (go_at_call 18; refine (ceLives _).mono ?_; rintro e w11 ⟨rfl, hf11⟩))
      go_ret
      exact ⟨rfl, ((HQ1.out.quiet HQx.out).quiet (by first | exact HF9.out.drewN _ | exact HF9.out.drew | exact HF9.out)).quiet hf11⟩
  · have HCC := Lib.hid hc; clear hc
    have hb1 : b < w1.heap.size := Nat.lt_of_lt_of_le hb HQ1.out.size
    have HCC1 : Hid (∀ i j, i < len → j < 2 → w1.cell? ⟨b, o + i * 2 + j, none⟩ = some (opS ts ns i j)) := fun i j hi hj => HQ1.out.cell (HCC.out i j hi hj) (fun q => q)
    go_loopw [8, 9] (fun s8 i wr => Plays22 w1 D bc l0.length len s8 i wr) (fun _ i _ => len - (intOf i).toNat)
    case atStart => exact ⟨0, l0, A, c, _, rfl, by omega, by omega, rfl, hR6, rfl, hC6, HG0.out, hQ6⟩
    case round =>
      clear hR6 hC6 hQ6
      obtain ⟨k, l, A, c, bx, rfl, hk, hk40, rfl, hRx, hL, hCx, hgk, hQx⟩ := hrel
      have hlx : l.length ≤ 1000 := by omega
      by_cases hlt : k < len
      · by_cases h40 : k < 40
        · have hbr : b < wr.heap.size := Nat.lt_of_lt_of_le hb1 hQx.size
          have e0 : wr.cell? ⟨b, o + k * 2, none⟩ = some (.int .i64 (ts k)) := hQx.cell (HCC1.out k 0 hlt (by omega)) (fun q => q)
          have e1 : wr.cell? ⟨b, o + k * 2 + 1, none⟩ = some (.int .i64 (ns k)) := hQx.cell (HCC1.out k 1 hlt (by omega)) (fun q => q)
          have HS : Hid (∀ w', TFr 81 bc wr w' → w'.cell? ⟨b, o + k * 2, none⟩ = some (.int .i64 (ts k)) ∧ w'.cell? ⟨b, o + k * 2 + 1, none⟩ = some (.int .i64 (ns k)) ∧ TFr 81 bc wr w') := by
            intro w' q
            exact ⟨Fr.cell q e0 (fun ⟨h, _⟩ => by omega), Fr.cell q e1 (fun ⟨h, _⟩ => by omega), q⟩
          have C2 := Lib.hid (ceSet hCx.drew hlx (ts k) (ns k))
          have RF := Lib.hid (fun (wz : World) (h : R22 wz bx (.slice A (allL l).length c) (allL l)) => rFind22 wz bx A c l hlx h (ts k))
          have RS := Lib.hid (fun (wz : World) (h : R22 wz bx (.slice A (allL l).length c) (allL l)) => rSet22 wz bx A c l hlx h (ts k) (ns k))
          have SL := Lib.hid (cSet_len (ts k) (ns k) l)
          have SG := Lib.hid (gok_set D l hgk (ts k) (ns k))
          have SF := cSet_fI (ts k) (ns k) l
          have HCx := Lib.hid hCx; have HQx := Lib.hid hQx; have HRx := Lib.hid hRx
          clear hCx hQx hRx hgk
          generalize hl2 : (cSet (ts k) (ns k) l).1 = l2 at *
          generalize (cSet (ts k) (ns k) l).2 = ok at *
          generalize fI (ts k) l = fi at *
          clear hl2
          go_wp2_with fail
          go_cut [61] (fun s wx => s = .bool false ∧ CeAt wx bc bc l2 ∧ TFr 81 bc wr wx)
          case first =>
            rcases SF with ⟨rfl, rfl⟩ | ⟨fn, rfl, rfl⟩
            · go_region_held3 (fun w' => w'.cell? ⟨b, o + k * 2, none⟩ = some (.int .i64 (ts k)) ∧ w'.cell? ⟨b, o + k * 2 + 1, none⟩ = some (.int .i64 (ns k)) ∧ TFr 81 bc wr w')
                (exact HS.out _ (by first | exact hF2 | exact hF1 | exact (Fr.refl _ _).drew | exact Fr.refl _ _))
                (first
                  | (go_at_call 16; refine C2.out.mono ?_; rintro e w7 ⟨rfl, hc9, hf9⟩; have hF1 : TFr 81 bc wr w7 := hf9.undrew)
                  | (go_at_call 22; refine (RF.out _ (HRx.out.tfr hF1)).mono ?_; rintro e w8 ⟨rfl, hf8⟩; have hF2 : TFr 81 bc wr w8 := hF1.quiet hf8))
              all_goals (go_wp2_with fail; go_meet)
              exact ⟨rfl, hc9.quiet hf8, hF2⟩
            · have hfn : 0 ≤ (fn : Int) := by omega
              go_region_held3 (fun w' => w'.cell? ⟨b, o + k * 2, none⟩ = some (.int .i64 (ts k)) ∧ w'.cell? ⟨b, o + k * 2 + 1, none⟩ = some (.int .i64 (ns k)) ∧ TFr 81 bc wr w')
                (exact HS.out _ (by first | exact hF2 | exact hF1 | exact (Fr.refl _ _).drew | exact Fr.refl _ _))
                (first
                  | (go_at_call 16; refine C2.out.mono ?_; rintro e w7 ⟨rfl, hc9, hf9⟩; have hF1 : TFr 81 bc wr w7 := hf9.undrew)
                  | (go_at_call 22; refine (RF.out _ (HRx.out.tfr hF1)).mono ?_; rintro e w8 ⟨rfl, hf8⟩; have hF2 : TFr 81 bc wr w8 := hF1.quiet hf8))
              all_goals (go_wp2_with fail; go_meet)
              exact ⟨rfl, hc9.quiet hf8, hF2⟩
          case rest =>
            obtain ⟨rfl, hCw, hFw⟩ := hcut
            have f0 := (HS.out _ hFw).1
            have f1 := (HS.out _ hFw).2.1
            have HQw : Hid (Quiet w1 wc) := hFw.old HQx.out hbc
            have HRw := Lib.hid (HRx.out.tfr hFw)
            have HCw := Lib.hid hCw
            have FAl := Lib.hid (fun (wz : World) (h : CeAt wz bc bc l2) => ceAll h (by rw [SL.out]; exact hlx))
            have hbw : b < wc.heap.size := Nat.lt_of_lt_of_le hb1 HQw.out.size
            have HS2 : Hid (∀ w', Quiet wc w' → w'.cell? ⟨b, o + k * 2, none⟩ = some (.int .i64 (ts k)) ∧ w'.cell? ⟨b, o + k * 2 + 1, none⟩ = some (.int .i64 (ns k)) ∧ Quiet wc w') := fun w' q => ⟨q.cell f0 (fun x => x), q.cell f1 (fun x => x), q⟩
            clear HS hCw hFw C2 HCx RF HRx HQx e0 e1 SF
            go_upto_region 10 with fail
            go_cut [8] (fun s wx => ∃ A2 c2 b2, s = .slice A2 (allL l2).length c2 ∧ R22 wx b2 (.slice A2 (allL l2).length c2) (allL l2) ∧ Quiet wc wx)
            case first =>
              go_region_held3 (fun w' => w'.cell? ⟨b, o + k * 2, none⟩ = some (.int .i64 (ts k)) ∧ w'.cell? ⟨b, o + k * 2 + 1, none⟩ = some (.int .i64 (ns k)) ∧ Quiet wc w')
                (exact HS2.out _ (by first | exact hF1 | exact (Fr.refl _ _).drew | exact Fr.refl _ _))
                (first
                  | (go_at_call 23; refine (RS.out _ (HRw.out.fr ((Fr.refl (fun _ => False) _).drew) (fun _ _ q => q))).mono ?_; rintro e w7 ⟨A9, c9, rfl, hr9, hf9⟩; have hF1 : Quiet wc w7 := hf9.undrew))
              all_goals (go_wp2_with fail; go_meet)
              exact ⟨A9, c9, _, rfl, hr9, hF1⟩
            case rest =>
              obtain ⟨A9, c9, b9, rfl, hR9, hF9⟩ := hcut
              have HC9 := Lib.hid (HCw.out.quiet hF9); have HR9 := Lib.hid hR9; have HF9 := Lib.hid hF9
              clear hR9 hF9 HS2 HRw RS
              go_wp2_with (first
                | (go_at_call 21; refine (FAl.out _ HC9.out).mono ?_; rintro e w10 ⟨v5, rfl, hR5, hf5⟩; have HR5 := Lib.hid (R22.of hR5); have HF5 := Lib.hid hf5; clear hR5 hf5)
                | (go_at_call 20; refine (sameYes22 _ _ _ _ (by rw [allL_len, SL.out]; exact hlx) _ _ HR5.out (HR9.out.fr HF5.out (fun _ _ q => q))).mono ?_; rintro e w11 ⟨rfl, hf6⟩; have HF6 := Lib.hid hf6; clear hf6))
              go_roundw
              case rel => exact ⟨k + 1, l2, A9, c9, b9, by go_num, by omega, by omega, rfl, (HR9.out.fr HF5.out (fun _ _ q => q)).fr HF6.out (fun _ _ q => q), by rw [SL.out, hL], (HC9.out.quiet HF5.out).quiet HF6.out, SG.out, ((HQw.out.quiet HF9.out).quiet HF5.out).quiet HF6.out⟩
              case measure => simp [intOf]; omega
        · obtain rfl : k = 40 := by omega
          have HCx := Lib.hid hCx; have HQx := Lib.hid hQx; have HRx := Lib.hid hRx
          have GT := Lib.hid (ceGet hCx hlx obj)
          have GU := Lib.hid (fun (wz : World) (h : CeAt wz bc bc l) => ceGuard h hlx obj)
          have RF := Lib.hid (fun (wz : World) (h : R22 wz bx (.slice A (allL l).length c) (allL l)) => rFind22 wz bx A c l hlx h obj)
          cases hfi : fidx obj l with
          | none =>
            have E1 : cGet obj l = (0, false) := by unfold cGet; rw [hfi]
            have E2 : cGuard obj l = -1 := by unfold cGuard; rw [hfi]
            have E3 : fI obj l = -1 := by unfold fI; rw [hfi]
            rw [E1] at GT; rw [E2] at GU; rw [E3] at RF
            clear E1 E2 E3 hfi hCx hQx hRx hgk
            go_wp2_with (first
              | (go_at_call 15; refine GT.out.mono ?_; rintro e w8 ⟨rfl, rfl⟩)
              | (go_at_call 22; refine (RF.out _ HRx.out).mono ?_; rintro e w9 ⟨rfl, hf9⟩; have HF9 := Lib.hid hf9; clear hf9)
              | (go_at_call 24; refine (GU.out _ (HCx.out.quiet HF9.out)).mono ?_; rintro e w10 ⟨rfl, rfl⟩)
              | (go_at_call 18; refine (ceLives _).mono ?_; rintro e w11 ⟨rfl, hf11⟩))
            go_ret
            exact ⟨rfl, ((HQ1.out.quiet HQx.out).quiet HF9.out).quiet hf11⟩
          | some i =>
            obtain ⟨hli, hxi⟩ := fidx_lt obj l i hfi
            obtain ⟨kk, hkk, hk1, hk2⟩ := hgk l[i] (List.getElem_mem hli)
            obtain rfl : obj = kk := hxi.symm.trans hk1
            have E1 : cGet kk l = (l[i].2.2, true) := by unfold cGet; rw [hfi]; simp only [cAt_lt l i hli]
            have E2 : cGuard kk l = db D kk := by unfold cGuard; rw [hfi]; simp only [cAt_lt l i hli]; exact hk2
            have E3 : fI kk l = i := by unfold fI; rw [hfi]
            rw [E1] at GT; rw [E2] at GU; rw [E3] at RF
            obtain ⟨gd, od, rfl, hgd, hdc⟩ := (HD.out.quiet hQx).at kk hkk
            obtain ⟨gx, rfl, hgx, hxc⟩ := hRx.at i hli
            clear E1 E2 E3 hfi hCx hQx hRx hgk hxi hk1 hk2
            have hi0 : 0 ≤ (i : Int) := by omega
            have hi1 : (i : Int) < ((allL l).length : Int) := by rw [allL_len]; omega
            have hk0 : 0 ≤ (kk : Int) := by omega
            have hk1 : (kk : Int) < (D.length : Int) := by omega
            generalize l[i].2.2 = xv at *
            generalize db D kk = gv at *
            go_wp2_with (first
              | (go_at_call 15; refine GT.out.mono ?_; rintro e w8 ⟨rfl, rfl⟩)
              | (go_at_call 22; refine (RF.out _ HRx.out).mono ?_; rintro e w9 ⟨rfl, hf9⟩; replace hxc := hf9.cell hxc (fun q => q); replace hdc := hf9.cell hdc (fun q => q); have HF9 := Lib.hid hf9; clear hf9))
            go_wp2_with fail
            go_quiet (fail)
            go_wp2_with (first
              | (go_at_call 24; refine (GU.out _ (HCx.out.quiet (by first | exact HF9.out.drewN _ | exact HF9.out.drew | exact HF9.out))).mono ?_; rintro e w10 ⟨rfl, rfl⟩)
              | (go_at_call 18; refine (ceLives _).mono ?_; rintro e w11 ⟨rfl, hf11⟩))
            go_ret
            exact ⟨rfl, ((HQ1.out.quiet HQx.out).quiet (by first | exact HF9.out.drewN _ | exact HF9.out.drew | exact HF9.out)).quiet hf11⟩
      · obtain rfl : k = len := by omega
        have HCx := Lib.hid hCx; have HQx := Lib.hid hQx; have HRx := Lib.hid hRx
        have GT := Lib.hid (ceGet hCx hlx obj)
        have GU := Lib.hid (fun (wz : World) (h : CeAt wz bc bc l) => ceGuard h hlx obj)
        have RF := Lib.hid (fun (wz : World) (h : R22 wz bx (.slice A (allL l).length c) (allL l)) => rFind22 wz bx A c l hlx h obj)
        cases hfi : fidx obj l with
        | none =>
          have E1 : cGet obj l = (0, false) := by unfold cGet; rw [hfi]
          have E2 : cGuard obj l = -1 := by unfold cGuard; rw [hfi]
          have E3 : fI obj l = -1 := by unfold fI; rw [hfi]
          rw [E1] at GT; rw [E2] at GU; rw [E3] at RF
          clear E1 E2 E3 hfi hCx hQx hRx hgk
          go_wp2_with (first
            | (go_at_call 15; refine GT.out.mono ?_; rintro e w8 ⟨rfl, rfl⟩)
            | (go_at_call 22; refine (RF.out _ HRx.out).mono ?_; rintro e w9 ⟨rfl, hf9⟩; have HF9 := Lib.hid hf9; clear hf9)
            | (go_at_call 24; refine (GU.out _ (HCx.out.quiet HF9.out)).mono ?_; rintro e w10 ⟨rfl, rfl⟩)
            | (go_at_call 18; refine (ceLives _).mono ?_; rintro e w11 ⟨rfl, hf11⟩))
          go_ret
          exact ⟨rfl, ((HQ1.out.quiet HQx.out).quiet HF9.out).quiet hf11⟩
        | some i =>
          obtain ⟨hli, hxi⟩ := fidx_lt obj l i hfi
          obtain ⟨kk, hkk, hk1, hk2⟩ := hgk l[i] (List.getElem_mem hli)
          obtain rfl : obj = kk := hxi.symm.trans hk1
          have E1 : cGet kk l = (l[i].2.2, true) := by unfold cGet; rw [hfi]; simp only [cAt_lt l i hli]
          have E2 : cGuard kk l = db D kk := by unfold cGuard; rw [hfi]; simp only [cAt_lt l i hli]; exact hk2
          have E3 : fI kk l = i := by unfold fI; rw [hfi]
          rw [E1] at GT; rw [E2] at GU; rw [E3] at RF
          obtain ⟨gd, od, rfl, hgd, hdc⟩ := (HD.out.quiet hQx).at kk hkk
          obtain ⟨gx, rfl, hgx, hxc⟩ := hRx.at i hli
          clear E1 E2 E3 hfi hCx hQx hRx hgk hxi hk1 hk2
          have hi0 : 0 ≤ (i : Int) := by omega
          have hi1 : (i : Int) < ((allL l).length : Int) := by rw [allL_len]; omega
          have hk0 : 0 ≤ (kk : Int) := by omega
          have hk1 : (kk : Int) < (D.length : Int) := by omega
          generalize l[i].2.2 = xv at *
          generalize db D kk = gv at *
          go_wp2_with (first
            | (go_at_call 15; refine GT.out.mono ?_; rintro e w8 ⟨rfl, rfl⟩)
            | (go_at_call 22; refine (RF.out _ HRx.out).mono ?_; rintro e w9 ⟨rfl, hf9⟩; replace hxc := hf9.cell hxc (fun q => q); replace hdc := hf9.cell hdc (fun q => q); have HF9 := Lib.hid hf9; clear hf9))
          go_wp2_with fail
          go_quiet (fail)
          go_wp2_with (first
            | (go_at_call 24; refine (GU.out _ (HCx.out.quiet (by first | exact HF9.out.drewN _ | exact HF9.out.drew | exact HF9.out))).mono ?_; rintro e w10 ⟨rfl, rfl⟩)
            | (go_at_call 18; refine (ceLives _).mono ?_; rintro e w11 ⟨rfl, hf11⟩))
          go_ret
          exact ⟨rfl, ((HQ1.out.quiet HQx.out).quiet (by first | exact HF9.out.drewN _ | exact HF9.out.drew | exact HF9.out)).quiet hf11⟩

/-- CellPlays over data. -/
theorem cePlaysW (W : World) (v0 : Value) (l0 : List (Int × Int × Int)) (h0 : (shL (shP shInt (shP shInt shInt))).rd W W.heap.size l0 [v0]) (v1 : Value) (l1 : List (Int × Int)) (h1 : (shL (shP shInt shInt)).rd W W.heap.size l1 [v1]) (a : Int) (r : -9223372036854775808 ≤ a ∧ a ≤ 9223372036854775807) :
    Calls Try.prog 4 #[v0, v1, .int .i64 a] W fun e w' => e = .returned (.bool true) ∧ Quiet W w' :=
  cePlays W v0 v1 _ (d22_of h0) l1.length _ _ (slR_share h1) a

end Go.Proofs.Ytcmfbkajafbjnaa
