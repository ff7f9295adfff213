/- Package cell: the walk of CellApart. -/
import Derived.Test.YtcmfbkajafbjnaaCh
namespace Go.Proofs.Ytcmfbkajafbjnaa
open Go.RowKit Go.Proofs.YtcmfbkajafbjnaaW.PrintWords Go.Proofs.YtcmfbkajafbjnaaW.PrintLast Go.Proofs.YtcmfbkajafbjnaaW.PrintMore PCellPlays
set_option linter.unusedSimpArgs false
set_option linter.unusedVariables false

def Apart22 (w1 : World) (bc : Nat) (vc : Value) (bk bq : Nat) (l0 : List (Int × Int × Int)) (len : Nat) (i : Value) (wr : World) : Prop :=
  ∃ (k : Nat) (l : List (Int × Int × Int)), i = .int .i64 k ∧ k ≤ len ∧ k ≤ 40 ∧ l.length = l0.length ∧ Blk wr bc #[vc] 79 ∧ wr.ownsRow bc 81 3 vc l.length (enc3 l) ∧ CeAt wr bk bq l0 ∧ Quiet w1 wr

theorem Apart22.step {w1 wr wx : World} {bc : Nat} {vc : Value} {bk bq : Nat} {l l0 : List (Int × Int × Int)} (hbc : w1.heap.size ≤ bc) (ho : wr.ownsRow bc 81 3 vc l.length (enc3 l)) (hv : ∀ g, vc.ownBlock = some g → g < bq)
    (hf : Fr (fun k => vc.ownBlock = some k) wr wx) (hk : CeAt wr bk bq l0) (hq : Quiet w1 wr) : CeAt wx bk bq l0 ∧ Quiet w1 wx := by
  obtain ⟨vk, hbk, hok⟩ := hk
  refine ⟨⟨vk, hf.blk hbk (fun e => own_ne ho hbk (by decide) e), Fr.owns hok hf (fun g hg e => ?_)⟩, hq.trans hf (fun g hg => .inr ?_)⟩
  · have h1 := (hok.lt g hg).1
    have h2 := hv g e
    omega
  · exact Nat.le_trans hbc (ho.lt g hg).1

set_option maxRecDepth 100000 in
set_option maxHeartbeats 4000000 in
theorem ceApart (w : World) (v0 v1 : Value) (d : List De22) (hD : D22 w v0 d) (len : Nat) (ts ns : Nat → Int) (hv : SlR w w.heap.size v1 2 len (opS ts ns)) (obj : Int) :
    Calls Try.prog 7 #[v0, v1, .int .i64 obj] w fun e w' => e = .returned (.bool true) ∧ Quiet w w' := by
  have F0 := Lib.hid (few22 w v0 d hD)
  have hd60 : (d.take 60).length ≤ 60 := by simp; omega
  have hd2 : (d.take 60).take 60 = d.take 60 := List.take_of_length_le hd60
  go_enter Try.func7, Try.ntmps7
  go_wp2_with fail
  refine F0.out.mono ?_
  rintro e w1 ⟨A1, c1, rfl, hD1, hf1⟩
  generalize d.take 60 = D at *
  have HD := Lib.hid hD1
  have HQ1 := Lib.hid hf1
  have F1 := Lib.hid (few22 w1 _ D hD1)
  rw [hd2] at F1
  go_wp2_with fail
  refine F1.out.mono ?_
  rintro e w2 ⟨A2, c2, rfl, hD2, hf2⟩
  have F2 := Lib.hid (ceNewD w2 _ D hd60 hD2)
  go_wp2_with fail
  refine F2.out.mono ?_
  rintro e w3 ⟨rfl, hC3, hf3⟩
  have hl := newOf_len D
  have hbc : w1.heap.size ≤ w2.heap.size := hf2.size
  generalize hl0 : newOf D = l0 at *
  have hl60 : l0.length ≤ 1000 := by omega
  generalize w2.heap.size = bc at *
  have F3 := Lib.hid (ceClone hC3 hl60)
  obtain ⟨vc, hB3, hO3⟩ := hC3
  have hvc : ∀ g, vc.ownBlock = some g → g < w3.heap.size := fun g hg => (hO3.lt g hg).2
  go_wp2_with fail
  refine F3.out.mono ?_
  rintro e w4 ⟨bk, vk, rfl, hbk, hok, hf4⟩
  have hB4 := hf4.blk hB3 (fun q => q)
  have hO4 := Fr.owns hO3 hf4 (fun _ _ q => q)
  have hK4 : CeAt w4 bk w3.heap.size l0 := ⟨vk, hbk, hok⟩
  have hQ4 : Quiet w1 w4 := (hf2.quiet hf3).quiet hf4
  clear hD1 hD2 hf1 hf2 hf3 hf4 F0 F1 F2 F3 hD hB3 hO3 hbk hok
  generalize w3.heap.size = bq at *
  go_wp2_with fail
  rcases hv with ⟨rfl, av, rfl⟩ | ⟨b, o, cap, hb, hlen, rfl, hc⟩
  · refine wp_loop_rounds 1 ?_; rw [rounds_succ]
    have hKx := hK4; have hQx := hQ4
    clear hK4 hQ4 hB4 hO4
    have FA := Lib.hid (ceAll hKx hl60)
    have HQx := Lib.hid hQx
    clear hKx hQx
    go_wp2_with (first
      | (go_at_call 15; refine (ceNilGet _ _).mono ?_; rintro e w8 ⟨rfl, rfl⟩)
      | (go_at_call 16; refine (ceNilSet _ _ _).mono ?_; rintro e w8 ⟨rfl, rfl⟩)
      | (go_at_call 24; refine (ceNilGuard _ _).mono ?_; rintro e w8 ⟨rfl, rfl⟩)
      | (go_at_call 36; refine (ceNilClone _).mono ?_; rintro e w8 ⟨rfl, rfl⟩)
      | (go_at_call 21; first | (have hq7 := HF7.out; clear hq7; refine (ceNilAll _).mono ?_; rintro e w8 ⟨rfl, rfl⟩) | (refine FA.out.mono ?_; rintro e w5 ⟨v5, rfl, hR5, hf5⟩; have HR5 := Lib.hid (R22.of hR5); have HF5 := Lib.hid hf5; clear hR5 hf5))
      | (go_at_call 19; refine (rNew22 _ _ D hd60 (HD.out.quiet (HQx.out.quiet HF5.out))).mono ?_; rintro e w6 ⟨A, c, rfl, hR6, hf6⟩; have HR6 := Lib.hid hR6; have HF6 := Lib.hid hf6; clear hR6 hf6; rw [hl0] at HR6; rw [hl0])
      | (go_at_call 20; refine (sameYes22 _ _ _ _ (by rw [allL_len]; exact hl60) _ _ (HR5.out.fr HF6.out (fun _ _ q => q)) HR6.out).mono ?_; rintro e w7 ⟨rfl, hf7⟩; have HF7 := Lib.hid hf7; clear hf7)
      | (go_at_call 18; refine (ceLives _).mono ?_; rintro e w11 ⟨rfl, hf11⟩))
    go_ret
    exact ⟨rfl, ((((HQ1.out.quiet HQx.out).quiet HF5.out).quiet HF6.out).quiet HF7.out).quiet hf11⟩
  · have HCC := Lib.hid hc; clear hc
    have hb1 : b < w1.heap.size := Nat.lt_of_lt_of_le hb HQ1.out.size
    have HCC1 : Hid (∀ i j, i < len → j < 2 → w1.cell? ⟨b, o + i * 2 + j, none⟩ = some (opS ts ns i j)) := fun i j hi hj => HQ1.out.cell (HCC.out i j hi hj) (fun q => q)
    have HV := Lib.hid hvc; clear hvc
    go_loopw [9] (fun i wr => Apart22 w1 bc vc bk bq l0 len i wr) (fun i _ => len - (intOf i).toNat)
    case atStart => exact ⟨0, l0, rfl, by omega, by omega, rfl, hB4, hO4, hK4, hQ4⟩
    case round =>
      clear hB4 hO4 hK4 hQ4
      obtain ⟨k, l, rfl, hk, hk40, hL, hBx, hOx, hKx, hQx⟩ := hrel
      by_cases hlt : k < len
      · by_cases h40 : k < 40
        · have hbr : b < wr.heap.size := Nat.lt_of_lt_of_le hb1 hQx.size
          have HS : Hid (∀ w', Quiet w1 w' → w'.cell? ⟨b, o + k * 2, none⟩ = some (.int .i64 (ts k)) ∧ w'.cell? ⟨b, o + k * 2 + 1, none⟩ = some (.int .i64 (ns k)) ∧ Quiet w1 w') := fun w' q =>
            ⟨q.cell (HCC1.out k 0 hlt (by omega)) (fun q => q), q.cell (HCC1.out k 1 hlt (by omega)) (fun q => q), q⟩
          have C2 := Lib.hid (ceSetV (w := wr.drew) hBx.drew hOx.drew (by omega) (ts k) (ns k))
          have SL := Lib.hid (cSet_len (ts k) (ns k) l)
          have ST := Lib.hid (fun (wx : World) (hf : Fr (fun k => vc.ownBlock = some k) wr wx) => Apart22.step hbc hOx HV.out hf hKx hQx)
          have HQx := Lib.hid hQx
          clear hBx hOx hKx hQx
          generalize (cSet (ts k) (ns k) l).1 = l2 at *
          generalize (cSet (ts k) (ns k) l).2 = ok at *
          go_wp2_with fail
          go_region_held3 (fun w' => w'.cell? ⟨b, o + k * 2, none⟩ = some (.int .i64 (ts k)) ∧ w'.cell? ⟨b, o + k * 2 + 1, none⟩ = some (.int .i64 (ns k)) ∧ Quiet w1 w')
            (exact HS.out _ (by first | exact hq9 | exact HQx.out.drew | exact HQx.out))
            (first
              | (go_at_call 16; refine C2.out.mono ?_; rintro e w7 ⟨rfl, ⟨hB9, hO9⟩, hf9⟩; have hf9' : Fr (fun k => vc.ownBlock = some k) wr w7 := hf9.undrew; obtain ⟨hk9, hq9⟩ := ST.out _ hf9'))
          all_goals
            go_wp2_with fail
            go_roundw
            case rel => exact ⟨k + 1, l2, by go_num, by omega, by omega, by rw [SL.out, hL], hB9, hO9, hk9, hq9⟩
            case measure => simp [intOf]; omega
        · obtain rfl : k = 40 := by omega
          clear hBx hOx
          have FA := Lib.hid (ceAll hKx hl60)
          have HQx := Lib.hid hQx
          clear hKx hQx
          go_wp2_with (first
            | (go_at_call 15; refine (ceNilGet _ _).mono ?_; rintro e w8 ⟨rfl, rfl⟩)
            | (go_at_call 16; refine (ceNilSet _ _ _).mono ?_; rintro e w8 ⟨rfl, rfl⟩)
            | (go_at_call 24; refine (ceNilGuard _ _).mono ?_; rintro e w8 ⟨rfl, rfl⟩)
            | (go_at_call 36; refine (ceNilClone _).mono ?_; rintro e w8 ⟨rfl, rfl⟩)
            | (go_at_call 21; first | (have hq7 := HF7.out; clear hq7; refine (ceNilAll _).mono ?_; rintro e w8 ⟨rfl, rfl⟩) | (refine FA.out.mono ?_; rintro e w5 ⟨v5, rfl, hR5, hf5⟩; have HR5 := Lib.hid (R22.of hR5); have HF5 := Lib.hid hf5; clear hR5 hf5))
            | (go_at_call 19; refine (rNew22 _ _ D hd60 (HD.out.quiet (HQx.out.quiet HF5.out))).mono ?_; rintro e w6 ⟨A, c, rfl, hR6, hf6⟩; have HR6 := Lib.hid hR6; have HF6 := Lib.hid hf6; clear hR6 hf6; rw [hl0] at HR6; rw [hl0])
            | (go_at_call 20; refine (sameYes22 _ _ _ _ (by rw [allL_len]; exact hl60) _ _ (HR5.out.fr HF6.out (fun _ _ q => q)) HR6.out).mono ?_; rintro e w7 ⟨rfl, hf7⟩; have HF7 := Lib.hid hf7; clear hf7)
            | (go_at_call 18; refine (ceLives _).mono ?_; rintro e w11 ⟨rfl, hf11⟩))
          go_ret
          exact ⟨rfl, ((((HQ1.out.quiet HQx.out).quiet HF5.out).quiet HF6.out).quiet HF7.out).quiet hf11⟩
      · obtain rfl : k = len := by omega
        clear hBx hOx
        have FA := Lib.hid (ceAll hKx hl60)
        have HQx := Lib.hid hQx
        clear hKx hQx
        go_wp2_with (first
          | (go_at_call 15; refine (ceNilGet _ _).mono ?_; rintro e w8 ⟨rfl, rfl⟩)
          | (go_at_call 16; refine (ceNilSet _ _ _).mono ?_; rintro e w8 ⟨rfl, rfl⟩)
          | (go_at_call 24; refine (ceNilGuard _ _).mono ?_; rintro e w8 ⟨rfl, rfl⟩)
          | (go_at_call 36; refine (ceNilClone _).mono ?_; rintro e w8 ⟨rfl, rfl⟩)
          | (go_at_call 21; first | (have hq7 := HF7.out; clear hq7; refine (ceNilAll _).mono ?_; rintro e w8 ⟨rfl, rfl⟩) | (refine FA.out.mono ?_; rintro e w5 ⟨v5, rfl, hR5, hf5⟩; have HR5 := Lib.hid (R22.of hR5); have HF5 := Lib.hid hf5; clear hR5 hf5))
          | (go_at_call 19; refine (rNew22 _ _ D hd60 (HD.out.quiet (HQx.out.quiet HF5.out))).mono ?_; rintro e w6 ⟨A, c, rfl, hR6, hf6⟩; have HR6 := Lib.hid hR6; have HF6 := Lib.hid hf6; clear hR6 hf6; rw [hl0] at HR6; rw [hl0])
          | (go_at_call 20; refine (sameYes22 _ _ _ _ (by rw [allL_len]; exact hl60) _ _ (HR5.out.fr HF6.out (fun _ _ q => q)) HR6.out).mono ?_; rintro e w7 ⟨rfl, hf7⟩; have HF7 := Lib.hid hf7; clear hf7)
          | (go_at_call 18; refine (ceLives _).mono ?_; rintro e w11 ⟨rfl, hf11⟩))
        go_ret
        exact ⟨rfl, ((((HQ1.out.quiet HQx.out).quiet HF5.out).quiet HF6.out).quiet HF7.out).quiet hf11⟩

/-- CellApart over data. -/
theorem ceApartW (W : World) (v0 : Value) (l0 : List (Int × Int × Int)) (h0 : (shL (shP shInt (shP shInt shInt))).rd W W.heap.size l0 [v0]) (v1 : Value) (l1 : List (Int × Int)) (h1 : (shL (shP shInt shInt)).rd W W.heap.size l1 [v1]) (a : Int) (r : -9223372036854775808 ≤ a ∧ a ≤ 9223372036854775807) :
    Calls Try.prog 7 #[v0, v1, .int .i64 a] W fun e w' => e = .returned (.bool true) ∧ Quiet W w' :=
  ceApart W v0 v1 _ (d22_of h0) l1.length _ _ (slR_share h1) a

end Go.Proofs.Ytcmfbkajafbjnaa
