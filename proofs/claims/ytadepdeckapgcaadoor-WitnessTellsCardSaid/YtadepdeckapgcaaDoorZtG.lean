/- LawWitnessTells, part 7: what the proof stands on (merged by wip/shake.py out of the session's texts and of what the print wrote for this claim). -/
import Derived.ArgAppend
import Derived.BigQuiet
import Derived.Deep.QuietTactic
import Derived.Test.YtadepdeckapgcaaDoorZtF

section
namespace Go.Proofs.YtadepdeckapgcaaDoor
open Go.RowKit Go.Proofs.YtadepdeckapgcaaDoorW.PrintWords Go.Proofs.YtadepdeckapgcaaDoorW.PrintLast Go.Proofs.YtadepdeckapgcaaDoorW.PrintMore PWitnessTells
set_option linter.unusedSimpArgs false
set_option linter.unusedVariables false
theorem hSame28 (w : World) (x y : NNode) (b : Bool) (hb : ndE x y = b) (A1 : Option Addr) (c1 : Nat) (A2 : Option Addr) (c2 : Nat) (h1 : kWay.C w A1 x.f1.length x.f1) (h2 : x.f1.length ≤ c1) (h3 : kWay.C w A2 y.f1.length y.f1) (h4 : y.f1.length ≤ c2) :
    Calls Tryd.prog 61 #[.agg #[.bool x.f0, .slice A1 x.f1.length c1], .agg #[.bool y.f0, .slice A2 y.f1.length c2]] w fun e w' => e = .returned (.bool b) ∧ Quiet w w' := by
  subst hb
  obtain ⟨k, hk⟩ := (ev_nsame x y (bws_of h1)).rounds
  exact (logjamref28_Same.calls k x.f0 A1 c1 x.f1 y.f0 A2 c2 y.f1 _ w h1 h2 h3 h4 hk).mono fun e w' ⟨he, hb⟩ => ⟨he, Quiet.of hb⟩
structure BothQ (a b W : World) : Prop where
  one : Quiet a W
  two : Quiet b W
theorem BothQ.quiet {a b W W' : World} (h : BothQ a b W) (q : Quiet W W') : BothQ a b W' := ⟨h.one.quiet q, h.two.quiet q⟩
theorem BothQ.bel {a b W : World} (h : BothQ a b W) : Below a.heap.size a W := Quiet.bel h.one
def LpRel (w : World) (a : Nat → Bool) (b : Bool) (m : Nat) (i : Value) (wr : World) : Prop := ∃ k : Nat, k ≤ m ∧ i = .int .i64 k ∧ a k = b ∧ Quiet w wr
set_option maxRecDepth 100000 in
set_option maxHeartbeats 2000000 in
theorem wSame36 (w : World) (time : Int) (A1 : Option Addr) (c1 : Nat) (d : List Int) (A2 : Option Addr) (c2 : Nat) (n : List NNode) (h1 : Kd.C (Kd.int .i64) w A1 d.length d) (h2 : d.length ≤ c1) (h3 : Kd.C k92 w A2 n.length n) (h4 : n.length ≤ c2)
    (time' : Int) (A1' : Option Addr) (c1' : Nat) (d' : List Int) (A2' : Option Addr) (c2' : Nat) (n' : List NNode) (h1' : Kd.C (Kd.int .i64) w A1' d'.length d') (h2' : d'.length ≤ c1') (h3' : Kd.C k92 w A2' n'.length n') (h4' : n'.length ≤ c2') :
    Calls Tryd.prog 24 #[.agg #[.int .i64 time, .slice A1 d.length c1, .slice A2 n.length c2], .agg #[.int .i64 time', .slice A1' d'.length c1', .slice A2' n'.length c2']] w fun e w' => e = .returned (.bool (repE time d n time' d' n')) ∧ Quiet w w' := by
  have hm1 := h1.2.1
  have hm2 := h3.2.1
  have HQ0 : Hid (Quiet w ((w.alloc (.cells #[.int .i64 time, .slice A1 d.length c1, .slice A2 n.length c2] 25)).alloc (.cells #[.int .i64 time', .slice A1' d'.length c1', .slice A2' n'.length c2'] 25))) := Lib.hid (by (repeat (first | exact Fr.refl _ _ | assumption | (refine Fr.quiet ?_ (by assumption)) | refine Fr.quiet ?_ HF.out | refine Fr.quiet ?_ HF2.out | refine Fr.drew ?_ | refine Fr.drewN ?_ _ | refine Fr.alloc ?_ _ | refine Fr.setCell ?_ (.inr (by first | omega | (simp; done) | (simp; omega))) _)))
  have HD := Lib.hid h1; have HN := Lib.hid h3; have HD' := Lib.hid h1'; have HN' := Lib.hid h3'
  clear h1 h3 h1' h3'
  have bad : ∀ q : Bool, q = false → Hid (repE time d n time' d' n' = q) → Hid (repE time d n time' d' n' = false) := fun q h h2 => by rw [h] at h2; exact h2
  by_cases e0 : time = time'
  case neg =>
    have E : Hid (repE time d n time' d' n' = false) := Lib.hid (by unfold repE; rw [beq_eq_false_iff_ne.2 e0, Bool.false_and])
    have t0 : (time != time') = true := by simpa using e0
    clear e0
    go_enter Tryd.func24, Tryd.ntmps24
    go_wp2
    go_ret
    rw [E.out]; exact ⟨rfl, HQ0.out⟩
  have t0 : (time != time') = false := by simpa using e0
  have HE0 := Lib.hid e0
  clear e0
  by_cases e1 : d.length = d'.length
  case neg =>
    have E : Hid (repE time d n time' d' n' = false) := Lib.hid (by unfold repE; rw [eqL_len intE _ _ e1, Bool.false_and, Bool.and_false])
    have t1 : ((d.length : Int) != (d'.length : Int)) = true := by rw [bne_iff_ne]; omega
    clear e1
    go_enter Tryd.func24, Tryd.ntmps24
    go_wp2
    go_ret
    rw [E.out]; exact ⟨rfl, HQ0.out⟩
  have t1 : ((d.length : Int) != (d'.length : Int)) = false := by rw [bne_eq_false_iff_eq]; omega
  have HE1 := Lib.hid e1
  clear e1
  by_cases e2 : n.length = n'.length
  case neg =>
    have E : Hid (repE time d n time' d' n' = false) := Lib.hid (by unfold repE; rw [eqL_len ndE _ _ e2, Bool.and_false, Bool.and_false])
    have t2 : ((n.length : Int) != (n'.length : Int)) = true := by rw [bne_iff_ne]; omega
    clear e2
    go_enter Tryd.func24, Tryd.ntmps24
    go_wp2
    go_ret
    rw [E.out]; exact ⟨rfl, HQ0.out⟩
  have t2 : ((n.length : Int) != (n'.length : Int)) = false := by rw [bne_eq_false_iff_eq]; omega
  have HE2 := Lib.hid e2
  clear e2 bad
  have ER : Hid (repE time d n time' d' n' = (eqL intE d d' && eqL ndE n n')) := Lib.hid (by unfold repE; rw [beq_iff_eq.2 HE0.out, Bool.true_and])
  obtain ⟨W2, hW2⟩ : ∃ W, W = (w.alloc (.cells #[.int .i64 time, .slice A1 d.length c1, .slice A2 n.length c2] 25)).alloc (.cells #[.int .i64 time', .slice A1' d'.length c1', .slice A2' n'.length c2'] 25) := ⟨_, rfl⟩
  have HX : Hid (Blk W2 w.heap.size #[.int .i64 time, .slice A1 d.length c1, .slice A2 n.length c2] 25 ∧ Blk W2 (w.heap.size + 1) #[.int .i64 time', .slice A1' d'.length c1', .slice A2' n'.length c2'] 25) := Lib.hid (by
    rw [hW2]
    exact ⟨(Blk.new _ _ _).alloc _, by simpa using Blk.new (w.alloc (.cells #[.int .i64 time, .slice A1 d.length c1, .slice A2 n.length c2] 25)) #[.int .i64 time', .slice A1' d'.length c1', .slice A2' n'.length c2'] 25⟩)
  rw [← hW2] at HQ0
  go_enter Tryd.func24, Tryd.ntmps24
  go_wp2
  rw [← hW2]
  clear hW2
  go_loopw [5] (fun i wr => LpRel W2 (fun k => eqL intE (d.drop k) (d'.drop k)) (eqL intE d d') d.length i wr) (fun i _ => d.length - (intOf i).toNat)
  case atStart => exact ⟨0, Nat.zero_le _, rfl, rfl, Fr.refl _ _⟩
  case round =>
    obtain ⟨k, hk, rfl, hx, hQ⟩ := hrel
    dsimp only at hx
    have v1 := (hQ.blk HX.out.1 (fun x => x)).cell 1; have v2 := (hQ.blk HX.out.2 (fun x => x)).cell 1
    have u1 := (hQ.blk HX.out.1 (fun x => x)).cell 2; have u2 := (hQ.blk HX.out.2 (fun x => x)).cell 2
    simp at v1 v2 u1 u2
    by_cases hlt : k < d.length
    · have hlt' : k < d'.length := by have := HE1.out; omega
      obtain ⟨ad, hA, g1⟩ := at_ints (Kd.C_below HD.out (Quiet.bel (HQ0.out.quiet hQ))) k hlt
      obtain ⟨bd, hB, g2⟩ := at_ints (Kd.C_below HD'.out (Quiet.bel (HQ0.out.quiet hQ))) k hlt'
      rw [drop_cons 0 d k hlt, drop_cons 0 d' k hlt', eqL_cons] at hx
      generalize d.getD k 0 = x at *
      generalize d'.getD k 0 = y at *
      subst hA hB
      have HQ := Lib.hid hQ
      have hk0 : (0 : Int) ≤ (k : Int) := by omega
      have hk1 : (k : Int) < (d.length : Int) := by omega
      have hk2 : (k : Int) < (d'.length : Int) := by omega
      clear hQ u1 u2
      by_cases hxy : x = y
      · have b1 : (x != y) = false := by simpa using hxy
        have HXX := Lib.hid (show eqL intE (d.drop (k + 1)) (d'.drop (k + 1)) = eqL intE d d' by rw [← hx, show intE x y = true by unfold intE; simpa using hxy, Bool.true_and])
        clear hx hxy
        go_wp2_with fail
        go_quiet (fail)
        go_wp2
        go_roundw
        case rel => exact ⟨k + 1, by omega, by go_num, HXX.out, HQ.out.drewN _⟩
        case measure => simp [intOf]; omega
      · have b1 : (x != y) = true := by simpa using hxy
        have HXX := Lib.hid (show eqL intE d d' = false by rw [← hx, show intE x y = false by unfold intE; simpa using hxy, Bool.false_and])
        clear hx hxy
        go_wp2_with fail
        go_quiet (fail)
        go_wp2
        go_ret
        rw [ER.out, HXX.out]
        exact ⟨rfl, HQ0.out.quiet (HQ.out.drewN _)⟩
    · have hx' : eqL intE d d' = true := by have := HE1.out; rw [← hx, List.drop_of_length_le (by omega), List.drop_of_length_le (by omega)]; rfl
      rw [hx', Bool.true_and] at ER
      obtain ⟨wo, hwo⟩ : ∃ x, x = wr := ⟨_, rfl⟩
      subst hwo
      have HQo := Lib.hid (HQ0.out.quiet hQ)
      have HXo : Hid (Blk wo w.heap.size #[.int .i64 time, .slice A1 d.length c1, .slice A2 n.length c2] 25 ∧ Blk wo (w.heap.size + 1) #[.int .i64 time', .slice A1' d'.length c1', .slice A2' n'.length c2'] 25) := Lib.hid ⟨hQ.blk HX.out.1 (fun x => x), hQ.blk HX.out.2 (fun x => x)⟩
      clear hx hx' hQ HX HQ0 v1 v2 u1 u2
      have v1 := HXo.out.1.cell 1
      simp at v1
      go_wp2
      go_loopw [6] (fun i wr => LpRel wo (fun k => eqL ndE (n.drop k) (n'.drop k)) (eqL ndE n n') n.length i wr) (fun i _ => n.length - (intOf i).toNat)
      case atStart => exact ⟨0, Nat.zero_le _, rfl, rfl, Fr.refl _ _⟩
      case round =>
        obtain ⟨k, hk, rfl, hx, hQ⟩ := hrel
        dsimp only at hx
        have u1 := (hQ.blk HXo.out.1 (fun x => x)).cell 2
        simp at u1
        by_cases hlt : k < n.length
        · have hlt' : k < n'.length := by have := HE2.out; omega
          obtain ⟨ad, B1, d1, hA, g1, g2, hl1, hC1⟩ := at_T92 HN.out k (by omega) (by omega)
          obtain ⟨bd, B2, d2, hB, g3, g4, hl2, hC2⟩ := at_T92 HN'.out k (by omega) (by omega)
          have hr1 : rd_T92 n (k : Int) = n.getD k z92 := rfl
          have hr2 : rd_T92 n' (k : Int) = n'.getD k z92 := rfl
          rw [hr1] at g1 g2 hl1 hC1; rw [hr2] at g3 g4 hl2 hC2
          rw [drop_cons z92 n k hlt, drop_cons z92 n' k hlt', eqL_cons] at hx
          generalize n.getD k z92 = x at *
          generalize n'.getD k z92 = y at *
          simp only [Int.toNat_natCast] at g1 g2 g3 g4
          subst hA hB
          have HS : Hid (∀ W, BothQ w wo W → W.cell? ⟨w.heap.size, 2, none⟩ = some (.slice (some ad) n.length c2) ∧ W.cell? (ad.add (k * 2)) = some (.bool x.f0) ∧ W.cell? ⟨(ad.add (k * 2)).block, (ad.add (k * 2)).off + 1, none⟩ = some (.slice B1 x.f1.length d1) ∧
              W.cell? ⟨w.heap.size + 1, 2, none⟩ = some (.slice (some bd) n'.length c2') ∧ W.cell? (bd.add (k * 2)) = some (.bool y.f0) ∧ W.cell? ⟨(bd.add (k * 2)).block, (bd.add (k * 2)).off + 1, none⟩ = some (.slice B2 y.f1.length d2)) := Lib.hid (fun W q =>
            ⟨by simpa using (q.two.blk HXo.out.1 (fun x => x)).cell 2, Quiet.cellA q.one g1, Quiet.cellA q.one g2, by simpa using (q.two.blk HXo.out.2 (fun x => x)).cell 2, Quiet.cellA q.one g3, Quiet.cellA q.one g4⟩)
          have HWA : Hid (BothQ w wo wr.drew) := Lib.hid ⟨(HQo.out.quiet hQ).drew, hQ.drew⟩
          have HJ := Lib.hid (HS.out _ HWA.out)
          have HCx := Lib.hid hC1; have HCy := Lib.hid hC2
          have hk0 : (0 : Int) ≤ (k : Int) := by omega
          have hk1 : (k : Int) < (n.length : Int) := by omega
          have hk2 : (k : Int) < (n'.length : Int) := by omega
          clear hQ hr1 hr2 hC1 hC2 g1 g2 g3 g4
          have HXX := Lib.hid hx
          obtain ⟨b, hb⟩ : ∃ b, ndE x y = b := ⟨_, rfl⟩
          rw [hb] at HXX
          clear hx
          go_wp2_with fail
          refine start_ (n := 12) (S := fun w' => w'.cell? ⟨w.heap.size, 2, none⟩ = some (.slice (some ad) n.length c2) ∧ w'.cell? (ad.add (k * 2)) = some (.bool x.f0) ∧ w'.cell? ⟨(ad.add (k * 2)).block, (ad.add (k * 2)).off + 1, none⟩ = some (.slice B1 x.f1.length d1) ∧ w'.cell? ⟨w.heap.size + 1, 2, none⟩ = some (.slice (some bd) n'.length c2') ∧ w'.cell? (bd.add (k * 2)) = some (.bool y.f0) ∧ w'.cell? ⟨(bd.add (k * 2)).block, (bd.add (k * 2)).off + 1, none⟩ = some (.slice B2 y.f1.length d2)) (ds := []) #[false, false, false, false, false, false, false, false, false, false, false, false] (by kernel_rfl) rfl rfl ⟨HJ.out.1, HJ.out.2.1, HJ.out.2.2.1, HJ.out.2.2.2.1, HJ.out.2.2.2.2.1, HJ.out.2.2.2.2.2⟩ (fun hHeld => ?_)
          generalize wr.drew = wA at HWA HJ hHeld ⊢
          refine pure_ (i := 0) (N := some 55) (v := ?_) (a' := ?_) #[true, false, false, false, false, false, false, false, false, false, false, false] rfl rfl (by kernel_rfl) (fun _ _ _ h => h) (Or.inl ⟨by rfl, ?_⟩) ?_ ?_
          rotate_left
          · intro w'
            go_simp
            with_reducible rfl
          rotate_left
          · simp only [Act.put, List.setIfInBounds_toArray, List.set_cons_zero, List.set_cons_succ, i64_w, i32_w]
            rfl
          refine pure_ (i := 2) (N := some 57) (v := ?_) (a' := ?_) #[true, false, true, false, false, false, false, false, false, false, false, false] rfl rfl (by kernel_rfl) (fun _ _ _ h => h) (Or.inl ⟨by rfl, ?_⟩) ?_ ?_
          rotate_left
          · intro w'
            go_simp
            with_reducible rfl
          rotate_left
          · simp only [Act.put, List.setIfInBounds_toArray, List.set_cons_zero, List.set_cons_succ, i64_w, i32_w]
            rfl
          refine pure_ (i := 5) (N := some 60) (v := ?_) (a' := ?_) #[true, false, true, false, false, true, false, false, false, false, false, false] rfl rfl (by kernel_rfl) (fun _ _ _ h => h) (Or.inl ⟨by rfl, ?_⟩) ?_ ?_
          rotate_left
          · intro w'
            go_simp
            with_reducible rfl
          rotate_left
          · simp only [Act.put, List.setIfInBounds_toArray, List.set_cons_zero, List.set_cons_succ, i64_w, i32_w]
            rfl
          refine pure_ (i := 7) (N := some 62) (v := ?_) (a' := ?_) #[true, false, true, false, false, true, false, true, false, false, false, false] rfl rfl (by kernel_rfl) (fun _ _ _ h => h) (Or.inl ⟨by rfl, ?_⟩) ?_ ?_
          rotate_left
          · intro w'
            go_simp
            with_reducible rfl
          rotate_left
          · simp only [Act.put, List.setIfInBounds_toArray, List.set_cons_zero, List.set_cons_succ, i64_w, i32_w]
            rfl
          refine take_ (i := 1) (N := some 56) (v := ?_) (a' := ?_) #[true, true, true, false, false, true, false, true, false, false, false, false] rfl rfl (by kernel_rfl) (fun _ _ _ h => h) (Or.inl ⟨by rfl, ?_⟩) hHeld ?_ ?_
          rotate_left
          · rintro w' ⟨s0, s1, s2, s3, s4, s5⟩
            go_simp
            with_reducible rfl
          rotate_left
          · simp only [Act.put, List.setIfInBounds_toArray, List.set_cons_zero, List.set_cons_succ, i64_w, i32_w]
            rfl
          refine pure_ (i := 3) (N := some 58) (v := ?_) (a' := ?_) #[true, true, true, true, false, true, false, true, false, false, false, false] rfl rfl (by kernel_rfl) (fun _ _ _ h => h) (Or.inl ⟨by rfl, ?_⟩) ?_ ?_
          rotate_left
          · intro w'
            go_simp
            with_reducible rfl
          rotate_left
          · simp only [Act.put, List.setIfInBounds_toArray, List.set_cons_zero, List.set_cons_succ, i64_w, i32_w]
            rfl
          refine take_ (i := 4) (N := some 59) (v := ?_) (a' := ?_) #[true, true, true, true, true, true, false, true, false, false, false, false] rfl rfl (by kernel_rfl) (fun _ _ _ h => h) (Or.inl ⟨by rfl, ?_⟩) hHeld ?_ ?_
          rotate_left
          · rintro w' ⟨s0, s1, s2, s3, s4, s5⟩
            go_simp
            with_reducible rfl
          rotate_left
          · simp only [Act.put, List.setIfInBounds_toArray, List.set_cons_zero, List.set_cons_succ, i64_w, i32_w]
            rfl
          refine take_ (i := 6) (N := some 61) (v := ?_) (a' := ?_) #[true, true, true, true, true, true, true, true, false, false, false, false] rfl rfl (by kernel_rfl) (fun _ _ _ h => h) (Or.inl ⟨by rfl, ?_⟩) hHeld ?_ ?_
          rotate_left
          · rintro w' ⟨s0, s1, s2, s3, s4, s5⟩
            go_simp
            with_reducible rfl
          rotate_left
          · simp only [Act.put, List.setIfInBounds_toArray, List.set_cons_zero, List.set_cons_succ, i64_w, i32_w]
            rfl
          refine pure_ (i := 8) (N := some 63) (v := ?_) (a' := ?_) #[true, true, true, true, true, true, true, true, true, false, false, false] rfl rfl (by kernel_rfl) (fun _ _ _ h => h) (Or.inl ⟨by rfl, ?_⟩) ?_ ?_
          rotate_left
          · intro w'
            go_simp
            with_reducible rfl
          rotate_left
          · simp only [Act.put, List.setIfInBounds_toArray, List.set_cons_zero, List.set_cons_succ, i64_w, i32_w]
            rfl
          refine take_ (i := 9) (N := some 64) (v := ?_) (a' := ?_) #[true, true, true, true, true, true, true, true, true, true, false, false] rfl rfl (by kernel_rfl) (fun _ _ _ h => h) (Or.inl ⟨by rfl, ?_⟩) hHeld ?_ ?_
          rotate_left
          · rintro w' ⟨s0, s1, s2, s3, s4, s5⟩
            go_simp
            with_reducible rfl
          rotate_left
          · simp only [Act.put, List.setIfInBounds_toArray, List.set_cons_zero, List.set_cons_succ, i64_w, i32_w]
            rfl
          refine one_ (i := 10) (N := some 65) #[true, true, true, true, true, true, true, true, true, true, true, false] rfl rfl (by kernel_rfl) (by decide) (fun K hK => ?_)
          refine goes_ Tryd.func61 (by kernel_rfl) rfl #[.agg #[.bool x.f0, .slice B1 x.f1.length d1], .agg #[.bool y.f0, .slice B2 y.f1.length d2]] (by rfl) rfl rfl (by simp only [List.map_toArray, List.map_cons, List.map_nil]; rfl) ?_
          with_reducible refine (hSame28 _ x y b hb B1 d1 B2 d2 (Kd.C_below HCx.out HWA.out.bel) hl1 (Kd.C_below HCy.out HWA.out.bel) hl2).mono ?_
          rintro e w9 ⟨rfl, hq⟩
          refine ⟨_, rfl, ?_⟩
          have HW9 := Lib.hid (HWA.out.quiet hq)
          clear HJ hq
          have HJ := Lib.hid (HS.out _ HW9.out)
          refine hK.out _ _ ⟨HJ.out.1, HJ.out.2.1, HJ.out.2.2.1, HJ.out.2.2.2.1, HJ.out.2.2.2.2.1, HJ.out.2.2.2.2.2⟩ (fun hHeld => ?_)
          clear hK K
          refine norm_ (a' := ?_) ?_ ?_
          rotate_left
          · show Act.put _ (some 65) _ = _
            simp only [Act.put, List.setIfInBounds_toArray, List.set_cons_zero, List.set_cons_succ, i64_w, i32_w]
            rfl
          refine pure_ (i := 11) (N := some 66) (v := ?_) (a' := ?_) #[true, true, true, true, true, true, true, true, true, true, true, true] rfl rfl (by kernel_rfl) (fun _ _ _ h => h) (Or.inl ⟨by rfl, ?_⟩) ?_ ?_
          rotate_left
          · intro w'
            go_simp
            with_reducible rfl
          rotate_left
          · simp only [Act.put, List.setIfInBounds_toArray, List.set_cons_zero, List.set_cons_succ, i64_w, i32_w]
            rfl
          refine done_ (by kernel_rfl) ?_
          cases b
          · have HX2 := Lib.hid HXX.out
            rw [Bool.false_and] at HX2
            go_wp2
            go_ret
            rw [ER.out, ← HX2.out]
            exact ⟨rfl, HW9.out.one⟩
          · have HX2 := Lib.hid HXX.out
            rw [Bool.true_and] at HX2
            go_wp2
            go_roundw
            case rel => exact ⟨k + 1, by omega, by go_num, HX2.out, HW9.out.two⟩
            case measure => simp [intOf]; omega
        · have hx' : eqL ndE n n' = true := by have := HE2.out; rw [← hx, List.drop_of_length_le (by omega), List.drop_of_length_le (by omega)]; rfl
          have HXX := Lib.hid hx'
          clear hx hx'
          go_wp2
          go_ret
          rw [ER.out, HXX.out]
          exact ⟨rfl, HQo.out.quiet hQ⟩
theorem hChk36 (w : World) (time : Int) (A1 : Option Addr) (c1 : Nat) (d : List Int) (A2 : Option Addr) (c2 : Nat) (n : List NNode) (h1 : Kd.C (Kd.int .i64) w A1 d.length d) (h2 : d.length ≤ c1) (h3 : Kd.C k92 w A2 n.length n) (h4 : n.length ≤ c2) :
    Calls Tryd.prog 38 #[.agg #[.int .i64 time, .slice A1 d.length c1, .slice A2 n.length c2]] w fun e w' => e = .returned (.int .i64 (chkR time d n)) ∧ Quiet w w' := by
  obtain ⟨k, hk⟩ := (ev_rchk time d (C_len h1).2 n (bns_of h3)).rounds
  exact (logjamref36_Check.calls k time A1 c1 d A2 c2 n _ w h1 h2 h3 h4 hk).mono fun e w' ⟨he, hb⟩ => ⟨he, Quiet.of hb⟩
set_option maxRecDepth 100000 in
set_option maxHeartbeats 2000000 in
theorem wRMatch (w : World) (time : Int) (A1 : Option Addr) (c1 : Nat) (d : List Int) (A2 : Option Addr) (c2 : Nat) (n : List NNode) (h1 : Kd.C (Kd.int .i64) w A1 d.length d) (h2 : d.length ≤ c1) (h3 : Kd.C k92 w A2 n.length n) (h4 : n.length ≤ c2)
    (A3 : Option Addr) (c3 : Nat) (l : List NNode) (h5 : Kd.C k92 w A3 l.length l) (h6 : l.length ≤ c3) :
    Calls Tryd.prog 20 #[.agg #[.int .i64 time, .slice A1 d.length c1, .slice A2 n.length c2], .slice A3 l.length c3] w fun e w' => e = .returned (.bool (matchR time d n l)) ∧ Quiet w w' := by
  have hm1 := h1.2.1
  have hm5 := h5.2.1
  have hbx : ∀ o, Quiet w (w.alloc o) := fun o => by (repeat (first | exact Fr.refl _ _ | assumption | (refine Fr.quiet ?_ (by assumption)) | refine Fr.quiet ?_ HF.out | refine Fr.quiet ?_ HF2.out | refine Fr.drew ?_ | refine Fr.drewN ?_ _ | refine Fr.alloc ?_ _ | refine Fr.setCell ?_ (.inr (by first | omega | (simp; done) | (simp; omega))) _))
  have CH := Lib.hid (fun o => hChk36 (w.alloc o) time A1 c1 d A2 c2 n (Kd.C_below h1 (hbx o).bel) h2 (Kd.C_below h3 (hbx o).bel) h4)
  have HD := Lib.hid h1; have HN := Lib.hid h3; have HL := Lib.hid h5
  clear h1 h3 h5
  have HX0 : Hid (Blk (w.alloc (.cells #[.int .i64 time, .slice A1 d.length c1, .slice A2 n.length c2] 25)) w.heap.size #[.int .i64 time, .slice A1 d.length c1, .slice A2 n.length c2] 25) := Lib.hid (Blk.new _ _ _)
  by_cases c0 : chkR time d n = 0
  case neg =>
    have E : Hid (matchR time d n l = false) := Lib.hid (by unfold matchR; rw [decide_eq_false c0, Bool.false_and])
    have c1' : (chkR time d n != 0) = true := by simpa using c0
    clear c0
    go_enter Tryd.func20, Tryd.ntmps20
    go_wp2_with fail
    refine (CH.out _).mono ?_
    rintro e w1 ⟨rfl, hq1⟩
    have HQ1 := Lib.hid ((hbx _).quiet hq1)
    clear hq1
    go_wp2
    go_ret
    rw [E.out]; exact ⟨rfl, HQ1.out⟩
  obtain ⟨hlen, hdc, _⟩ := chkR_zero _ _ _ c0
  have HT0 : Hid (∀ t ∈ d, 0 ≤ t) := Lib.hid (fun t ht => (deadC_range d (-1) (by omega) hdc t ht).1)
  have ER : Hid (matchR time d n l = matchL l d n) := Lib.hid (by unfold matchR; rw [decide_eq_true c0, Bool.true_and])
  rw [c0] at CH
  have HLen := Lib.hid hlen
  clear c0 hdc hlen
  go_enter Tryd.func20, Tryd.ntmps20
  go_wp2_with fail
  refine (CH.out _).mono ?_
  rintro e w1 ⟨rfl, hq1⟩
  have HQ1 := Lib.hid ((hbx _).quiet hq1)
  have HX := Lib.hid (Fr.blk hq1 HX0.out (fun x => x))
  clear hq1 HX0 CH
  go_wp2
  go_loopw [5] (fun i wr => LpRel w1 (fun k => matchL l (d.drop k) (n.drop k)) (matchL l d n) d.length i wr) (fun i _ => d.length - (intOf i).toNat)
  case atStart => exact ⟨0, Nat.zero_le _, rfl, rfl, Fr.refl _ _⟩
  case round =>
    obtain ⟨k, hk, rfl, hx, hQ⟩ := hrel
    dsimp only at hx
    have v1 := (hQ.blk HX.out (fun x => x)).cell 1; have u1 := (hQ.blk HX.out (fun x => x)).cell 2
    simp at v1 u1
    by_cases hlt : k < d.length
    · have hlt' : k < n.length := by have := HLen.out; omega
      obtain ⟨jd, hJ, g0⟩ := at_ints HD.out k hlt
      obtain ⟨ad, B1, d1, hA, g1, g2, hl1, hC1⟩ := at_T92 HN.out k (by omega) (by omega)
      have hr1 : rd_T92 n (k : Int) = n.getD k z92 := rfl
      rw [hr1] at g1 g2 hl1 hC1
      rw [drop_cons 0 d k hlt, drop_cons z92 n k hlt', matchL_cons] at hx
      have ht0 := HT0.out _ (getD_mem 0 d k hlt)
      generalize d.getD k 0 = t at *
      generalize n.getD k z92 = x at *
      simp only [Int.toNat_natCast] at g1 g2
      subst hJ hA
      have hk0 : (0 : Int) ≤ (k : Int) := by omega
      have hk1 : (k : Int) < (d.length : Int) := by omega
      have hk2 : (k : Int) < (n.length : Int) := by omega
      have HWA : Hid (BothQ w w1 wr.drew) := Lib.hid ⟨(HQ1.out.quiet hQ).drew, hQ.drew⟩
      have HCx := Lib.hid hC1
      by_cases q : t < (l.length : Int)
      · obtain ⟨bd, B2, d2, hB, g3, g4, hl2, hC2⟩ := at_T92 HL.out t ht0 q
        have hr2 : rd_T92 l t = l.getD t.toNat z92 := rfl
        rw [hr2] at g3 g4 hl2 hC2
        rw [decide_eq_true q, Bool.true_and] at hx
        generalize l.getD t.toNat z92 = y at *
        subst hB
        have HS : Hid (∀ W, BothQ w w1 W → W.cell? ⟨w.heap.size, 1, none⟩ = some (.slice (some jd) d.length c1) ∧ W.cell? (jd.add k) = some (.int .i64 t) ∧ W.cell? ⟨w.heap.size, 2, none⟩ = some (.slice (some ad) n.length c2) ∧ W.cell? (ad.add (k * 2)) = some (.bool x.f0) ∧ W.cell? ⟨(ad.add (k * 2)).block, (ad.add (k * 2)).off + 1, none⟩ = some (.slice B1 x.f1.length d1) ∧
            W.cell? (bd.add (t.toNat * 2)) = some (.bool y.f0) ∧ W.cell? ⟨(bd.add (t.toNat * 2)).block, (bd.add (t.toNat * 2)).off + 1, none⟩ = some (.slice B2 y.f1.length d2)) := Lib.hid (fun W q =>
          ⟨by simpa using (q.two.blk HX.out (fun x => x)).cell 1, Quiet.cellA q.one g0, by simpa using (q.two.blk HX.out (fun x => x)).cell 2, Quiet.cellA q.one g1, Quiet.cellA q.one g2, Quiet.cellA q.one g3, Quiet.cellA q.one g4⟩)
        have HJ := Lib.hid (HS.out _ HWA.out)
        have HCy := Lib.hid hC2
        have hgt : decide ((l.length : Int) ≤ t) = false := decide_eq_false (by omega)
        clear hQ hr1 hr2 hC1 hC2 g0 g1 g2 g3 g4 u1
        have HXX := Lib.hid hx
        obtain ⟨b, hb⟩ : ∃ b, ndE x y = b := ⟨_, rfl⟩
        rw [hb] at HXX
        clear hx
        go_wp2_with fail
        refine start_ (n := 25) (S := fun w' => w'.cell? ⟨w.heap.size, 1, none⟩ = some (.slice (some jd) d.length c1) ∧ w'.cell? (jd.add k) = some (.int .i64 t) ∧ w'.cell? ⟨w.heap.size, 2, none⟩ = some (.slice (some ad) n.length c2) ∧ w'.cell? (ad.add (k * 2)) = some (.bool x.f0) ∧ w'.cell? ⟨(ad.add (k * 2)).block, (ad.add (k * 2)).off + 1, none⟩ = some (.slice B1 x.f1.length d1) ∧ w'.cell? (bd.add (t.toNat * 2)) = some (.bool y.f0) ∧ w'.cell? ⟨(bd.add (t.toNat * 2)).block, (bd.add (t.toNat * 2)).off + 1, none⟩ = some (.slice B2 y.f1.length d2)) (ds := []) #[false, false, false, false, false, false, false, false, false, false, false, false, false, false, false, false, false, false, false, false, false, false, false, false, false] (by kernel_rfl) rfl rfl ⟨HJ.out.1, HJ.out.2.1, HJ.out.2.2.1, HJ.out.2.2.2.1, HJ.out.2.2.2.2.1, HJ.out.2.2.2.2.2.1, HJ.out.2.2.2.2.2.2⟩ (fun hHeld => ?_)
        generalize wr.drew = wA at HWA HJ hHeld ⊢
        refine pure_ (i := 0) (N := some 16) (v := ?_) (a' := ?_) #[true, false, false, false, false, false, false, false, false, false, false, false, false, false, false, false, false, false, false, false, false, false, false, false, false] rfl rfl (by kernel_rfl) (fun _ _ _ h => h) (Or.inl ⟨by rfl, ?_⟩) ?_ ?_
        rotate_left
        · intro w'
          go_simp
          with_reducible rfl
        rotate_left
        · simp only [Act.put, List.setIfInBounds_toArray, List.set_cons_zero, List.set_cons_succ, i64_w, i32_w]
          rfl
        refine pure_ (i := 2) (N := some 18) (v := ?_) (a' := ?_) #[true, false, true, false, false, false, false, false, false, false, false, false, false, false, false, false, false, false, false, false, false, false, false, false, false] rfl rfl (by kernel_rfl) (fun _ _ _ h => h) (Or.inl ⟨by rfl, ?_⟩) ?_ ?_
        rotate_left
        · intro w'
          go_simp
          with_reducible rfl
        rotate_left
        · simp only [Act.put, List.setIfInBounds_toArray, List.set_cons_zero, List.set_cons_succ, i64_w, i32_w]
          rfl
        refine pure_ (i := 5) (N := some 21) (v := ?_) (a' := ?_) #[true, false, true, false, false, true, false, false, false, false, false, false, false, false, false, false, false, false, false, false, false, false, false, false, false] rfl rfl (by kernel_rfl) (fun _ _ _ h => h) (Or.inl ⟨by rfl, ?_⟩) ?_ ?_
        rotate_left
        · intro w'
          go_simp
          with_reducible rfl
        rotate_left
        · simp only [Act.put, List.setIfInBounds_toArray, List.set_cons_zero, List.set_cons_succ, i64_w, i32_w]
          rfl
        refine pure_ (i := 6) (N := some 22) (v := ?_) (a' := ?_) #[true, false, true, false, false, true, true, false, false, false, false, false, false, false, false, false, false, false, false, false, false, false, false, false, false] rfl rfl (by kernel_rfl) (fun _ _ _ h => h) (Or.inl ⟨by rfl, ?_⟩) ?_ ?_
        rotate_left
        · intro w'
          go_simp
          with_reducible rfl
        rotate_left
        · simp only [Act.put, List.setIfInBounds_toArray, List.set_cons_zero, List.set_cons_succ, i64_w, i32_w]
          rfl
        refine take_ (i := 1) (N := some 17) (v := ?_) (a' := ?_) #[true, true, true, false, false, true, true, false, false, false, false, false, false, false, false, false, false, false, false, false, false, false, false, false, false] rfl rfl (by kernel_rfl) (fun _ _ _ h => h) (Or.inl ⟨by rfl, ?_⟩) hHeld ?_ ?_
        rotate_left
        · rintro w' ⟨s0, s1, s2, s3, s4, s5, s6⟩
          go_simp
          with_reducible rfl
        rotate_left
        · simp only [Act.put, List.setIfInBounds_toArray, List.set_cons_zero, List.set_cons_succ, i64_w, i32_w]
          rfl
        refine pure_ (i := 3) (N := some 19) (v := ?_) (a' := ?_) #[true, true, true, true, false, true, true, false, false, false, false, false, false, false, false, false, false, false, false, false, false, false, false, false, false] rfl rfl (by kernel_rfl) (fun _ _ _ h => h) (Or.inl ⟨by rfl, ?_⟩) ?_ ?_
        rotate_left
        · intro w'
          go_simp
          with_reducible rfl
        rotate_left
        · simp only [Act.put, List.setIfInBounds_toArray, List.set_cons_zero, List.set_cons_succ, i64_w, i32_w]
          rfl
        refine take_ (i := 4) (N := some 20) (v := ?_) (a' := ?_) #[true, true, true, true, true, true, true, false, false, false, false, false, false, false, false, false, false, false, false, false, false, false, false, false, false] rfl rfl (by kernel_rfl) (fun _ _ _ h => h) (Or.inl ⟨by rfl, ?_⟩) hHeld ?_ ?_
        rotate_left
        · rintro w' ⟨s0, s1, s2, s3, s4, s5, s6⟩
          go_simp
          with_reducible rfl
        rotate_left
        · simp only [Act.put, List.setIfInBounds_toArray, List.set_cons_zero, List.set_cons_succ, i64_w, i32_w]
          rfl
        refine pure_ (i := 7) (N := some 23) (v := ?_) (a' := ?_) #[true, true, true, true, true, true, true, true, false, false, false, false, false, false, false, false, false, false, false, false, false, false, false, false, false] rfl rfl (by kernel_rfl) (fun _ _ _ h => h) (Or.inl ⟨by rfl, ?_⟩) ?_ ?_
        rotate_left
        · intro w'
          go_simp
          with_reducible rfl
        rotate_left
        · simp only [Act.put, List.setIfInBounds_toArray, List.set_cons_zero, List.set_cons_succ, i64_w, i32_w]
          rfl
        refine pure_ (i := 8) (N := some 24) (v := ?_) (a' := ?_) #[true, true, true, true, true, true, true, true, true, false, false, false, false, false, false, false, false, false, false, false, false, false, false, false, false] rfl rfl (by kernel_rfl) (fun _ _ _ h => h) (Or.inl ⟨by rfl, ?_⟩) ?_ ?_
        rotate_left
        · intro w'
          go_simp
          with_reducible rfl
        rotate_left
        · simp only [Act.put, List.setIfInBounds_toArray, List.set_cons_zero, List.set_cons_succ, i64_w, i32_w]
          rfl
        refine pure_ (i := 9) (N := some 25) (v := ?_) (a' := ?_) #[true, true, true, true, true, true, true, true, true, true, false, false, false, false, false, false, false, false, false, false, false, false, false, false, false] rfl rfl (by kernel_rfl) (fun _ _ _ h => h) (Or.inl ⟨by rfl, ?_⟩) ?_ ?_
        rotate_left
        · intro w'
          go_simp
          with_reducible rfl
        rotate_left
        · simp only [Act.put, List.setIfInBounds_toArray, List.set_cons_zero, List.set_cons_succ, i64_w, i32_w]
          rfl
        refine pure_ (i := 11) (N := some 27) (v := ?_) (a' := ?_) #[true, true, true, true, true, true, true, true, true, true, false, true, false, false, false, false, false, false, false, false, false, false, false, false, false] rfl rfl (by kernel_rfl) (fun _ _ _ h => h) (Or.inl ⟨by rfl, ?_⟩) ?_ ?_
        rotate_left
        · intro w'
          go_simp
          with_reducible rfl
        rotate_left
        · simp only [Act.put, List.setIfInBounds_toArray, List.set_cons_zero, List.set_cons_succ, i64_w, i32_w]
          rfl
        refine pure_ (i := 14) (N := some 30) (v := ?_) (a' := ?_) #[true, true, true, true, true, true, true, true, true, true, false, true, false, false, true, false, false, false, false, false, false, false, false, false, false] rfl rfl (by kernel_rfl) (fun _ _ _ h => h) (Or.inl ⟨by rfl, ?_⟩) ?_ ?_
        rotate_left
        · intro w'
          go_simp
          with_reducible rfl
        rotate_left
        · simp only [Act.put, List.setIfInBounds_toArray, List.set_cons_zero, List.set_cons_succ, i64_w, i32_w]
          rfl
        refine pure_ (i := 15) (N := some 31) (v := ?_) (a' := ?_) #[true, true, true, true, true, true, true, true, true, true, false, true, false, false, true, true, false, false, false, false, false, false, false, false, false] rfl rfl (by kernel_rfl) (fun _ _ _ h => h) (Or.inl ⟨by rfl, ?_⟩) ?_ ?_
        rotate_left
        · intro w'
          go_simp
          with_reducible rfl
        rotate_left
        · simp only [Act.put, List.setIfInBounds_toArray, List.set_cons_zero, List.set_cons_succ, i64_w, i32_w]
          rfl
        refine pure_ (i := 17) (N := some 33) (v := ?_) (a' := ?_) #[true, true, true, true, true, true, true, true, true, true, false, true, false, false, true, true, false, true, false, false, false, false, false, false, false] rfl rfl (by kernel_rfl) (fun _ _ _ h => h) (Or.inl ⟨by rfl, ?_⟩) ?_ ?_
        rotate_left
        · intro w'
          go_simp
          with_reducible rfl
        rotate_left
        · simp only [Act.put, List.setIfInBounds_toArray, List.set_cons_zero, List.set_cons_succ, i64_w, i32_w]
          rfl
        refine take_ (i := 10) (N := some 26) (v := ?_) (a' := ?_) #[true, true, true, true, true, true, true, true, true, true, true, true, false, false, true, true, false, true, false, false, false, false, false, false, false] rfl rfl (by kernel_rfl) (fun _ _ _ h => h) (Or.inl ⟨by rfl, ?_⟩) hHeld ?_ ?_
        rotate_left
        · rintro w' ⟨s0, s1, s2, s3, s4, s5, s6⟩
          go_simp
          with_reducible rfl
        rotate_left
        · simp only [Act.put, List.setIfInBounds_toArray, List.set_cons_zero, List.set_cons_succ, i64_w, i32_w]
          rfl
        refine pure_ (i := 12) (N := some 28) (v := ?_) (a' := ?_) #[true, true, true, true, true, true, true, true, true, true, true, true, true, false, true, true, false, true, false, false, false, false, false, false, false] rfl rfl (by kernel_rfl) (fun _ _ _ h => h) (Or.inl ⟨by rfl, ?_⟩) ?_ ?_
        rotate_left
        · intro w'
          go_simp
          with_reducible rfl
        rotate_left
        · simp only [Act.put, List.setIfInBounds_toArray, List.set_cons_zero, List.set_cons_succ, i64_w, i32_w]
          rfl
        refine take_ (i := 13) (N := some 29) (v := ?_) (a' := ?_) #[true, true, true, true, true, true, true, true, true, true, true, true, true, true, true, true, false, true, false, false, false, false, false, false, false] rfl rfl (by kernel_rfl) (fun _ _ _ h => h) (Or.inl ⟨by rfl, ?_⟩) hHeld ?_ ?_
        rotate_left
        · rintro w' ⟨s0, s1, s2, s3, s4, s5, s6⟩
          go_simp
          with_reducible rfl
        rotate_left
        · simp only [Act.put, List.setIfInBounds_toArray, List.set_cons_zero, List.set_cons_succ, i64_w, i32_w]
          rfl
        refine take_ (i := 16) (N := some 32) (v := ?_) (a' := ?_) #[true, true, true, true, true, true, true, true, true, true, true, true, true, true, true, true, true, true, false, false, false, false, false, false, false] rfl rfl (by kernel_rfl) (fun _ _ _ h => h) (Or.inl ⟨by rfl, ?_⟩) hHeld ?_ ?_
        rotate_left
        · rintro w' ⟨s0, s1, s2, s3, s4, s5, s6⟩
          go_simp
          with_reducible rfl
        rotate_left
        · simp only [Act.put, List.setIfInBounds_toArray, List.set_cons_zero, List.set_cons_succ, i64_w, i32_w]
          rfl
        refine pure_ (i := 18) (N := some 34) (v := ?_) (a' := ?_) #[true, true, true, true, true, true, true, true, true, true, true, true, true, true, true, true, true, true, true, false, false, false, false, false, false] rfl rfl (by kernel_rfl) (fun _ _ _ h => h) (Or.inl ⟨by rfl, ?_⟩) ?_ ?_
        rotate_left
        · intro w'
          go_simp
          with_reducible rfl
        rotate_left
        · simp only [Act.put, List.setIfInBounds_toArray, List.set_cons_zero, List.set_cons_succ, i64_w, i32_w]
          rfl
        refine take_ (i := 19) (N := some 35) (v := ?_) (a' := ?_) #[true, true, true, true, true, true, true, true, true, true, true, true, true, true, true, true, true, true, true, true, false, false, false, false, false] rfl rfl (by kernel_rfl) (fun _ _ _ h => h) (Or.inl ⟨by rfl, ?_⟩) hHeld ?_ ?_
        rotate_left
        · rintro w' ⟨s0, s1, s2, s3, s4, s5, s6⟩
          go_simp
          with_reducible rfl
        rotate_left
        · simp only [Act.put, List.setIfInBounds_toArray, List.set_cons_zero, List.set_cons_succ, i64_w, i32_w]
          rfl
        refine pure_ (i := 20) (N := some 36) (v := ?_) (a' := ?_) #[true, true, true, true, true, true, true, true, true, true, true, true, true, true, true, true, true, true, true, true, true, false, false, false, false] rfl rfl (by kernel_rfl) (fun _ _ _ h => h) (Or.inl ⟨by rfl, ?_⟩) ?_ ?_
        rotate_left
        · intro w'
          go_simp
          with_reducible rfl
        rotate_left
        · simp only [Act.put, List.setIfInBounds_toArray, List.set_cons_zero, List.set_cons_succ, i64_w, i32_w]
          rfl
        refine take_ (i := 21) (N := some 37) (v := ?_) (a' := ?_) #[true, true, true, true, true, true, true, true, true, true, true, true, true, true, true, true, true, true, true, true, true, true, false, false, false] rfl rfl (by kernel_rfl) (fun _ _ _ h => h) (Or.inl ⟨by rfl, ?_⟩) hHeld ?_ ?_
        rotate_left
        · rintro w' ⟨s0, s1, s2, s3, s4, s5, s6⟩
          go_simp
          with_reducible rfl
        rotate_left
        · simp only [Act.put, List.setIfInBounds_toArray, List.set_cons_zero, List.set_cons_succ, i64_w, i32_w]
          rfl
        refine one_ (i := 22) (N := some 38) #[true, true, true, true, true, true, true, true, true, true, true, true, true, true, true, true, true, true, true, true, true, true, true, false, false] rfl rfl (by kernel_rfl) (by decide) (fun K hK => ?_)
        refine goes_ Tryd.func61 (by kernel_rfl) rfl #[.agg #[.bool x.f0, .slice B1 x.f1.length d1], .agg #[.bool y.f0, .slice B2 y.f1.length d2]] (by rfl) rfl rfl (by simp only [List.map_toArray, List.map_cons, List.map_nil]; rfl) ?_
        with_reducible refine (hSame28 _ x y b hb B1 d1 B2 d2 (Kd.C_below HCx.out HWA.out.bel) hl1 (Kd.C_below HCy.out HWA.out.bel) hl2).mono ?_
        rintro e w9 ⟨rfl, hq⟩
        refine ⟨_, rfl, ?_⟩
        have HW9 := Lib.hid (HWA.out.quiet hq)
        clear HJ hq
        have HJ := Lib.hid (HS.out _ HW9.out)
        refine hK.out _ _ ⟨HJ.out.1, HJ.out.2.1, HJ.out.2.2.1, HJ.out.2.2.2.1, HJ.out.2.2.2.2.1, HJ.out.2.2.2.2.2.1, HJ.out.2.2.2.2.2.2⟩ (fun hHeld => ?_)
        clear hK K
        refine norm_ (a' := ?_) ?_ ?_
        rotate_left
        · show Act.put _ (some 38) _ = _
          simp only [Act.put, List.setIfInBounds_toArray, List.set_cons_zero, List.set_cons_succ, i64_w, i32_w]
          rfl
        refine pure_ (i := 23) (N := some 39) (v := ?_) (a' := ?_) #[true, true, true, true, true, true, true, true, true, true, true, true, true, true, true, true, true, true, true, true, true, true, true, true, false] rfl rfl (by kernel_rfl) (fun _ _ _ h => h) (Or.inl ⟨by rfl, ?_⟩) ?_ ?_
        rotate_left
        · intro w'
          go_simp
          with_reducible rfl
        rotate_left
        · simp only [Act.put, List.setIfInBounds_toArray, List.set_cons_zero, List.set_cons_succ, i64_w, i32_w]
          rfl
        refine pure_ (i := 24) (N := some 40) (v := ?_) (a' := ?_) #[true, true, true, true, true, true, true, true, true, true, true, true, true, true, true, true, true, true, true, true, true, true, true, true, true] rfl rfl (by kernel_rfl) (fun _ _ _ h => h) (Or.inl ⟨by rfl, ?_⟩) ?_ ?_
        rotate_left
        · intro w'
          go_simp
          with_reducible rfl
        rotate_left
        · simp only [Act.put, List.setIfInBounds_toArray, List.set_cons_zero, List.set_cons_succ, i64_w, i32_w]
          rfl
        refine done_ (by kernel_rfl) ?_
        cases b
        · have HX2 := Lib.hid HXX.out
          rw [Bool.false_and] at HX2
          go_wp2
          go_ret
          rw [ER.out, ← HX2.out]
          exact ⟨rfl, HW9.out.one⟩
        · have HX2 := Lib.hid HXX.out
          rw [Bool.true_and] at HX2
          go_wp2
          go_roundw
          case rel => exact ⟨k + 1, by omega, by go_num, HX2.out, HW9.out.two⟩
          case measure => simp [intOf]; omega
      · rw [decide_eq_false q, Bool.false_and, Bool.false_and] at hx
        have HXX := Lib.hid hx.symm
        have g0' := Quiet.cellA (HQ1.out.quiet hQ) g0
        have hgt : decide ((l.length : Int) ≤ t) = true := decide_eq_true (by omega)
        have HQ := Lib.hid hQ
        clear hQ hr1 hC1 g0 g1 g2 u1 hx q
        go_wp2_with fail
        go_quiet (fail)
        go_wp2
        go_ret
        rw [ER.out, HXX.out]
        exact ⟨rfl, HQ1.out.quiet (HQ.out.drewN _)⟩
    · have hx' : matchL l d n = true := by have := HLen.out; rw [← hx, List.drop_of_length_le (by omega), List.drop_of_length_le (by omega)]; rfl
      have HXX := Lib.hid hx'
      clear hx hx'
      go_wp2
      go_ret
      rw [ER.out, HXX.out]
      exact ⟨rfl, HQ1.out.quiet hQ⟩
end Go.Proofs.YtadepdeckapgcaaDoor
end

section
namespace Go.Proofs.YtadepdeckapgcaaDoor
open Go.RowKit Go.Proofs.YtadepdeckapgcaaDoorW.PrintWords Go.Proofs.YtadepdeckapgcaaDoorW.PrintLast Go.Proofs.YtadepdeckapgcaaDoorW.PrintMore PWitnessTells
set_option linter.unusedSimpArgs false
set_option linter.unusedVariables false
def IntsC (w : World) (v : Value) (l : List Int) : Prop := ∃ A c, v = .slice A l.length c ∧ Kd.C (Kd.int .i64) w A l.length l ∧ l.length ≤ c
def NodesC (w : World) (v : Value) (l : List NNode) : Prop := ∃ A c, v = .slice A l.length c ∧ Kd.C k92 w A l.length l ∧ l.length ≤ c
def RepC (w : World) (v : Value) (time : Int) (d : List Int) (n : List NNode) : Prop :=
  ∃ A1 c1 A2 c2, v = .agg #[.int .i64 time, .slice A1 d.length c1, .slice A2 n.length c2] ∧ Kd.C (Kd.int .i64) w A1 d.length d ∧ d.length ≤ c1 ∧ Kd.C k92 w A2 n.length n ∧ n.length ≤ c2
def RepR (w : World) (B : Nat) (v : Value) (time : Int) (d : List Int) (n : List NNode) : Prop :=
  ∃ A1 c1 A2 c2, v = .agg #[.int .i64 time, .slice A1 d.length c1, .slice A2 n.length c2] ∧ Kd.C (Kd.int .i64) w A1 d.length d ∧ d.length ≤ c1 ∧ k92.R 92 w B Any_ (.slice A2 n.length c2) n
theorem IntsC.quiet {w w' : World} {v : Value} {l : List Int} (h : IntsC w v l) (q : Quiet w w') : IntsC w' v l := by
  obtain ⟨A, c, e, h1, h2⟩ := h; exact ⟨A, c, e, Kd.C_below h1 q.bel, h2⟩
theorem NodesC.quiet {w w' : World} {v : Value} {l : List NNode} (h : NodesC w v l) (q : Quiet w w') : NodesC w' v l := by
  obtain ⟨A, c, e, h1, h2⟩ := h; exact ⟨A, c, e, Kd.C_below h1 q.bel, h2⟩
theorem RepC.quiet {w w' : World} {v : Value} {time : Int} {d : List Int} {n : List NNode} (h : RepC w v time d n) (q : Quiet w w') : RepC w' v time d n := by
  obtain ⟨A1, c1, A2, c2, e, h1, h2, h3, h4⟩ := h; exact ⟨A1, c1, A2, c2, e, Kd.C_below h1 q.bel, h2, Kd.C_below h3 q.bel, h4⟩
theorem RepR.quiet {w w' : World} {B : Nat} {v : Value} {time : Int} {d : List Int} {n : List NNode} (h : RepR w B v time d n) (q : Quiet w w') : RepR w' B v time d n := by
  obtain ⟨A1, c1, A2, c2, e, h1, h2, h3⟩ := h; exact ⟨A1, c1, A2, c2, e, Kd.C_below h1 q.bel, h2, Kd.R_below h3 q.bel⟩
theorem RepR.c {w : World} {B : Nat} {v : Value} {time : Int} {d : List Int} {n : List NNode} (h : RepR w B v time d n) : RepC w v time d n := by
  obtain ⟨A1, c1, A2, c2, e, h1, h2, h3⟩ := h
  obtain ⟨_, h4, h5⟩ := Kd.R_reads' h3
  exact ⟨A1, c1, A2, c2, e, h1, h2, h5, h4⟩
theorem Blk.quiet {w w' : World} {b : Nat} {cs : Array Value} {t : TypeId} (h : Blk w b cs t) (q : Quiet w w') : Blk w' b cs t := q.blk h (fun x => x)
theorem IntsC.of_R {w : World} {base : Nat} {ok : Nat → Prop} {v : Value} {l : List Int} (h : (Kd.int .i64).R 3 w base ok v l) : IntsC w v l := by
  obtain ⟨A, c, e, h1, h2⟩ := Kd.R_reads h; exact ⟨A, c, e, h2, h1⟩
theorem IntsC.of_own {w : World} {base : Nat} {v : Value} {l : List Int} (h : w.ownsRow base 3 1 v l.length (nums .i64 l)) : IntsC w v l := by
  obtain ⟨A, c, rfl, hr⟩ := own_reads h
  have hR : (Kd.int .i64).R 3 w base (fun _ => True) (.slice A l.length c) l := Kd.R_of_own (enc := Value.int .i64) (h1 := fun _ => rfl) h (fun _ _ => trivial)
  exact IntsC.of_R hR
section
variable {w : World} {v v2 : Value} {time : Int} {d : List Int} {n l : List NNode} {s : List Int} {B : Nat}
theorem cOwn36 (h : RepC w v time d n) : Calls Tryd.prog 13 #[v] w fun e w' => ∃ v', e = .returned v' ∧ RepR w' w.heap.size v' time (d.take 70) (ownL n) ∧ Quiet w w' := by
  obtain ⟨A1, c1, A2, c2, rfl, h1, h2, h3, h4⟩ := h
  refine (wOwn36 w time A1 c1 d A2 c2 n h1 h2 h3 h4).mono fun e w' ⟨v1, v2, he, hd, hn, hb⟩ => ?_
  obtain ⟨A, c, rfl, hl, hc⟩ := Kd.R_reads hd
  obtain ⟨A', c', rfl⟩ := Kd.R_slice hn
  exact ⟨_, he, ⟨A, c, A', c', rfl, hc, hl, hn⟩, Quiet.of hb⟩
theorem cOwn26 (h : NodesC w v l) : Calls Tryd.prog 14 #[v] w fun e w' => ∃ v', e = .returned v' ∧ NodesC w' v' (ownL l) ∧ Quiet w w' := by
  obtain ⟨A, c, rfl, h1, h2⟩ := h
  refine (wOwn26 w A c l h1 h2).mono fun e w' ⟨v', he, hn, hb⟩ => ?_
  obtain ⟨A', c', e', h3, h4⟩ := Kd.R_reads hn
  exact ⟨v', he, ⟨A', c', e', h4, h3⟩, Quiet.of hb⟩
theorem cSound (h : RepC w v time d n) : Calls Tryd.prog 17 #[v] w fun e w' => e = .returned (.bool (soundR time d n)) ∧ Quiet w w' := by
  obtain ⟨A1, c1, A2, c2, rfl, h1, h2, h3, h4⟩ := h
  exact wSound w time A1 c1 d A2 c2 n h1 h2 h3 h4
theorem cMatch (h : RepC w v time d n) (hl : NodesC w v2 l) : Calls Tryd.prog 19 #[v, v2] w fun e w' => e = .returned (.bool (matchR time d n l)) ∧ Quiet w w' := by
  obtain ⟨A1, c1, A2, c2, rfl, h1, h2, h3, h4⟩ := h
  obtain ⟨A3, c3, rfl, h5, h6⟩ := hl
  exact wMatch w time A1 c1 d A2 c2 n h1 h2 h3 h4 A3 c3 l h5 h6
theorem cLack (h : RepC w v time d n) (t : Int) : Calls Tryd.prog 15 #[v, .int .i64 t] w fun e w' => e = .returned (.tuple #[.int .i64 0, .int .i64 (lackK time d n t), .bool (lackB time d n t)]) ∧ Quiet w w' := by
  obtain ⟨A1, c1, A2, c2, rfl, h1, h2, h3, h4⟩ := h
  exact wLack w time A1 c1 d A2 c2 n h1 h2 h3 h4 t
theorem cCore (hT : Tb w) (h : RepC w v time d n) (t : Int) : Calls Tryd.prog 22 #[v, .int .i64 t] w fun e w' => ∃ v', e = .returned v' ∧ IntsC w' v' (coreR time d n t) ∧ Quiet w w' := by
  obtain ⟨A1, c1, A2, c2, rfl, h1, h2, h3, h4⟩ := h
  refine (wCore w hT time A1 c1 d A2 c2 n h1 h2 h3 h4 t).mono fun e w' ⟨q, v', hq, he, ho, hb⟩ => ?_
  have := core_eq time d n t q hq
  subst this
  exact ⟨v', he, IntsC.of_own ho, Quiet.of hb⟩
theorem cPart (h : RepC w v time d n) (hs : IntsC w v2 s) (hS : Sns n) : Calls Tryd.prog 25 #[v, v2] w fun e w' => ∃ v', e = .returned v' ∧ RepC w' v' (partT time d n) (partD (ofL 0 s) time d n) (partN (ofL 0 s) time d n) ∧ Quiet w w' := by
  obtain ⟨A1, c1, A2, c2, rfl, h1, h2, h3, h4⟩ := h
  obtain ⟨A3, c3, rfl, h5, h6⟩ := hs
  refine (wPart w time A1 c1 d A2 c2 n h1 h2 h3 h4 A3 c3 s h5 h6 hS).mono fun e w' ⟨v1, v2, he, hd, hn, hb⟩ => ?_
  obtain ⟨A, c, rfl, hl, hc⟩ := Kd.R_reads hd
  obtain ⟨A', c', rfl, hl', hc'⟩ := Kd.R_reads hn
  exact ⟨_, he, ⟨A, c, A', c', rfl, hc, hl, hc', hl'⟩, Quiet.of hb⟩
theorem crPart (hB : B ≤ w.heap.size) (h : RepR w B v time d n) (hs : IntsC w v2 s) (hnm : n.length ≤ 1000000) : Calls Tryd.prog 26 #[v, v2] w fun e w' => ∃ v', e = .returned v' ∧ RepC w' v' (partT time d n) (partD (ofL 0 s) time d n) (partN (ofL 0 s) time d n) ∧ Quiet w w' := by
  obtain ⟨A1, c1, A2, c2, rfl, h1, h2, h3⟩ := h
  obtain ⟨A3, c3, rfl, h5, h6⟩ := hs
  refine (rPart w B hB time A1 c1 d A2 c2 n h1 h2 h3 A3 c3 s h5 h6 hnm).mono fun e w' ⟨v1, v2, he, hd, hn, hb⟩ => ?_
  obtain ⟨A, c, rfl, hl, hc⟩ := Kd.R_reads hd
  obtain ⟨A', c', rfl, hl', hc'⟩ := Kd.R_reads hn
  exact ⟨_, he, ⟨A, c, A', c', rfl, hc, hl, hc', hl'⟩, Quiet.of hb⟩
theorem crSound (h : RepC w v time d n) : Calls Tryd.prog 18 #[v] w fun e w' => e = .returned (.bool (soundR time d n)) ∧ Quiet w w' := by
  obtain ⟨A1, c1, A2, c2, rfl, h1, h2, h3, h4⟩ := h
  obtain ⟨k, hk⟩ := (ev_sound time d (C_len h1).2 n (bns_of h3)).rounds
  exact (logjamref37_Sound.calls k time A1 c1 d A2 c2 n _ w h1 h2 h3 h4 hk).mono fun e w' ⟨he, hb⟩ => ⟨he, Quiet.of hb⟩
theorem crMatch (h : RepC w v time d n) (hl : NodesC w v2 l) : Calls Tryd.prog 20 #[v, v2] w fun e w' => e = .returned (.bool (matchR time d n l)) ∧ Quiet w w' := by
  obtain ⟨A1, c1, A2, c2, rfl, h1, h2, h3, h4⟩ := h
  obtain ⟨A3, c3, rfl, h5, h6⟩ := hl
  exact wRMatch w time A1 c1 d A2 c2 n h1 h2 h3 h4 A3 c3 l h5 h6
theorem crLack (h : RepC w v time d n) (t : Int) : Calls Tryd.prog 16 #[v, .int .i64 t] w fun e w' => e = .returned (.int .i64 (lackR time d n t)) ∧ Quiet w w' := by
  obtain ⟨A1, c1, A2, c2, rfl, h1, h2, h3, h4⟩ := h
  obtain ⟨k, hk⟩ := (ev_lack time d (C_len h1).2 n (bns_of h3) t).rounds
  exact (logjamref37_Lack.calls k time A1 c1 d A2 c2 n t _ w h1 h2 h3 h4 hk).mono fun e w' ⟨he, hb⟩ => ⟨he, Quiet.of hb⟩
theorem crCore (h : RepC w v time d n) (t : Int) : Calls Tryd.prog 23 #[v, .int .i64 t] w fun e w' => ∃ v', e = .returned v' ∧ IntsC w' v' (coreR time d n t) ∧ Quiet w w' := by
  obtain ⟨A1, c1, A2, c2, rfl, h1, h2, h3, h4⟩ := h
  obtain ⟨k, hk⟩ := (ev_core time d (C_len h1).2 n (bns_of h3) t).rounds
  exact (logjamref37_Core.calls k time A1 c1 d A2 c2 n t _ w h1 h2 h3 h4 hk).mono fun e w' ⟨v', he, hr, hb⟩ => ⟨v', he, IntsC.of_R hr, Quiet.of hb⟩
theorem cInts {s2 : List Int} (h1 : IntsC w v s) (h2 : IntsC w v2 s2) : Calls Tryd.prog 21 #[v, v2] w fun e w' => e = .returned (.bool (decide (s = s2))) ∧ Quiet w w' := by
  obtain ⟨A1, c1, rfl, h1, h3⟩ := h1
  obtain ⟨A2, c2, rfl, h2, h4⟩ := h2
  obtain ⟨k, hk⟩ := (ev_ints s s2 (C_len h1).2).rounds
  exact (logjamlaw30_Ints.calls k A1 c1 s A2 c2 s2 _ w h1 h3 h2 h4 hk).mono fun e w' ⟨he, m, hm⟩ => ⟨he, by rw [hm]; exact (Fr.refl _ _).drewN _⟩
theorem cSame {time2 : Int} {d2 : List Int} {n2 : List NNode} (h : RepC w v time d n) (h2 : RepC w v2 time2 d2 n2) : Calls Tryd.prog 24 #[v, v2] w fun e w' => e = .returned (.bool (repE time d n time2 d2 n2)) ∧ Quiet w w' := by
  obtain ⟨A1, c1, A2, c2, rfl, h1, h3, h4, h5⟩ := h
  obtain ⟨A3, c3, A4, c4, rfl, h6, h7, h8, h9⟩ := h2
  exact wSame36 w time A1 c1 d A2 c2 n h1 h3 h4 h5 time2 A3 c3 d2 A4 c4 n2 h6 h7 h8 h9
end
theorem take_take_same {α : Type} (l : List α) (k : Nat) : (l.take k).take k = l.take k := by rw [List.take_take, Nat.min_self]
theorem map_take_ {α β : Type} (f : α → β) (l : List α) (k : Nat) : (l.map f).take k = (l.take k).map f := by rw [List.map_take]
theorem ownM_idem (m : NTerm) : ownM (ownM m) = ownM m := by simp only [ownM, take_take_same]
theorem ownW_idem (w : List NTerm) : ownW (ownW w) = ownW w := by
  unfold ownW; rw [map_take_, take_take_same, List.map_map]; exact List.map_congr_left fun m _ => ownM_idem m
theorem ownN_idem (x : NNode) : ownN (ownN x) = ownN x := by
  unfold ownN; simp only [map_take_, take_take_same, List.map_map]
  congr 1; exact List.map_congr_left fun m _ => ownW_idem m
theorem ownL_idem (l : List NNode) : ownL (ownL l) = ownL l := by
  unfold ownL; rw [map_take_, take_take_same, List.map_map]; exact List.map_congr_left fun m _ => ownN_idem m
theorem C_of_sh {α β : Type} {S : Sh α} {d : Kd β} (f : α → β) (hsz : d.sz = S.n) {w : World} (hK : ∀ a cs, S.rd w w.heap.size a cs → d.K w (f a) cs) {l : List α} {v : Value} (h : (shL S).rd w w.heap.size l [v]) :
    ∃ A c, v = .slice A (l.map f).length c ∧ Kd.C d w A (l.map f).length (l.map f) ∧ (l.map f).length ≤ c := by
  rcases h with ⟨rfl, a, h⟩ | ⟨b, o, cap, hb, hl, hm, h, hi⟩
  · simp at h; exact ⟨a, 0, h, ⟨rfl, Nat.zero_le _, fun q => absurd q (by simp)⟩, Nat.le_refl _⟩
  · simp at h
    unfold maxLen at hm
    refine ⟨some ⟨b, o, none⟩, cap, by rw [h, List.length_map], ⟨rfl, by rw [List.length_map]; omega, fun _ => ⟨⟨b, o, none⟩, rfl, fun j q hj => ?_⟩⟩, by rw [List.length_map]; exact hl⟩
    rw [List.getElem?_map] at hj
    obtain ⟨x, hx, rfl⟩ := Option.map_eq_some_iff.1 hj
    obtain ⟨hjl, rfl⟩ := List.getElem?_eq_some_iff.1 hx
    obtain ⟨ci, hr, hcl, hcell⟩ := hi j hjl
    refine ⟨ci, hcl.trans hsz.symm, hK _ _ hr, fun i u hu => ?_⟩
    obtain ⟨hil, _⟩ := List.getElem?_eq_some_iff.1 hu
    rw [addr_add, hsz, ← Nat.add_assoc, hcell i (by omega)]
    exact hu
abbrev shShare : Sh (Int × Int) := shP shInt shInt
abbrev shTerm : Sh (Int × List (Int × Int)) := shP shInt (shL shShare)
abbrev shNode : Sh (Bool × List (List (Int × List (Int × Int)))) := shP shBool (shL (shL shTerm))
abbrev shRep : Sh (Int × List Int × List (Bool × List (List (Int × List (Int × Int))))) := shP shInt (shP (shL shInt) (shL shNode))
def toS (x : Int × Int) : NShare := ⟨x.1, x.2⟩
def toM (x : Int × List (Int × Int)) : NTerm := ⟨x.1, x.2.map toS⟩
def toN (x : Bool × List (List (Int × List (Int × Int)))) : NNode := ⟨x.1, x.2.map (·.map toM)⟩
theorem share_of {w : World} (a : Int × Int) (cs : List Value) (h : shShare.rd w w.heap.size a cs) : k108.K w (toS a) cs := by
  obtain ⟨c1, c2, rfl, _, ⟨rfl, _⟩, ⟨rfl, _⟩⟩ := h
  exact k108_mk w (toS a)
theorem term_of {w : World} (a : Int × List (Int × Int)) (cs : List Value) (h : shTerm.rd w w.heap.size a cs) : k96.K w (toM a) cs := by
  obtain ⟨c1, c2, rfl, _, ⟨rfl, _⟩, h2⟩ := h
  have hc : ∃ v, c2 = [v] := by
    rcases h2 with ⟨_, a, e⟩ | ⟨b, o, cap, _, _, _, e, _⟩
    · exact ⟨_, e⟩
    · exact ⟨_, e⟩
  obtain ⟨v, rfl⟩ := hc
  obtain ⟨A, c, rfl, h3, h4⟩ := C_of_sh (S := shShare) (d := k108) toS rfl share_of h2
  exact k96_mk w (toM a) h4 h3
theorem one_of_sh {α : Type} {S : Sh α} {w : World} {l : List α} {cs : List Value} (h : (shL S).rd w w.heap.size l cs) : ∃ v, cs = [v] := by
  rcases h with ⟨_, a, e⟩ | ⟨b, o, cap, _, _, _, e, _⟩
  · exact ⟨_, e⟩
  · exact ⟨_, e⟩
theorem way_of {w : World} (a : List (Int × List (Int × Int))) (cs : List Value) (h : (shL shTerm).rd w w.heap.size a cs) : kWay.K w (a.map toM) cs := by
  obtain ⟨v, rfl⟩ := one_of_sh h
  obtain ⟨A, c, rfl, h3, h4⟩ := C_of_sh (S := shTerm) (d := k96) toM rfl term_of h
  exact ⟨A, c, rfl, h4, h3⟩
theorem node_of {w : World} (a : Bool × List (List (Int × List (Int × Int)))) (cs : List Value) (h : shNode.rd w w.heap.size a cs) : k92.K w (toN a) cs := by
  obtain ⟨c1, c2, rfl, _, h1, h2⟩ := h
  obtain rfl : c1 = [.bool a.1] := h1
  obtain ⟨v, rfl⟩ := one_of_sh h2
  obtain ⟨A, c, rfl, h3, h4⟩ := C_of_sh (S := shL shTerm) (d := kWay) (·.map toM) rfl way_of h2
  exact k92_mk w (toN a) h4 h3
theorem ints_of {w : World} {l : List Int} {v : Value} (h : (shL shInt).rd w w.heap.size l [v]) : IntsC w v l := by
  have q := C_of_sh (S := shInt) (d := Kd.int .i64) id rfl (fun a cs h => by obtain ⟨rfl, _⟩ := h; rfl) h
  rw [List.map_id] at q; exact q
theorem nodes_of {w : World} {l : List (Bool × List (List (Int × List (Int × Int))))} {v : Value} (h : (shL shNode).rd w w.heap.size l [v]) : NodesC w v (l.map toN) :=
  C_of_sh (S := shNode) (d := k92) toN rfl node_of h
theorem rep_of {w : World} {a : Int × List Int × List (Bool × List (List (Int × List (Int × Int))))} {cs : Array Value} (h : shRep.rd w w.heap.size a cs.toList) : RepC w (.agg cs) a.1 a.2.1 (a.2.2.map toN) := by
  obtain ⟨c1, c2, e, _, ⟨rfl, _⟩, ⟨c3, c4, rfl, _, h2, h3⟩⟩ := h
  obtain ⟨v, rfl⟩ := one_of_sh h2
  obtain ⟨u, rfl⟩ := one_of_sh h3
  obtain ⟨A1, d1, rfl, h4, h5⟩ := ints_of h2
  obtain ⟨A2, d2, rfl, h6, h7⟩ := nodes_of h3
  have e2 : cs = #[.int .i64 a.1, .slice A1 a.2.1.length d1, .slice A2 (a.2.2.map toN).length d2] := by apply Array.ext'; rw [e]; rfl
  exact ⟨A1, d1, A2, d2, by rw [e2], h4, h5, h6, h7⟩
section
variable {P : Program} {ops : Array Oper} {o : Oper} {a : Act} {Q : Exit → Act → World → Prop} {Kc : Act → World → Prop}
theorem run_append_empty {W : World} (t ty e : TypeId) (i : TypeInfo) (ht : P.underlying t = some (.slice e)) (hi : P.info? e = some i) (b : Nat) (A : Option Addr) (c : Nat) :
    (Builtin.append_ #[t, t] ty #[.slice (some ⟨b, 0, none⟩) 0 0, .slice A 0 c]).run P W = .ok (.slice (some ⟨b, 0, none⟩) 0 0) W := by
  cases A with
  | none => simp [Builtin.append_, run_underlying ht, sizeOf, typeInfo, hi, Builtin.lenOf, Builtin.firstCells, storeCells]
  | some ad =>
    have q := run_append_room_cells (P := P) (w := W) t ty e i ht hi b 0 0 0 ad 0 c [] (by simp) (fun j u h => by simp at h) (by simp) (by omega) (fun j h => absurd h (by simp)) (fun j h => absurd h (by simp))
    simpa [World.setCells] using q
theorem rAppE {W : World} (hw : Region.wanted o (yielded ops a.tmps) = true) (s x : Operand) (t e : TypeId)
    (ho : o.op = .call { callee := .builtin .append, args := #[s, x], argTypes := #[t, t] })
    (ht : P.underlying t = some (.slice e)) (hinfo : (P.info? e).map (fun i => (i.zero, i.size, i.bytes)) = some (some (.int .i64 0), 1, 8)) (he : e = 3) (b : Nat) (vx : Value) (l : List Int)
    (hs : a.eval s = .slice (some ⟨b, 0, none⟩) 0 0) (hx : a.eval x = vx) (hC : IntsC W vx l) (hl : l.length ≤ 1000000)
    (h : ∀ v1 w1, IntsC w1 v1 l → Quiet W w1 → Kc (a.put o.dst v1) w1) :
    if Region.wanted o (yielded ops a.tmps) = true then Oper.wp P o a W Kc Q else Kc (a.put o.dst undef) W := by
  rw [if_pos hw]
  subst he
  obtain ⟨A, c, rfl, hC, hc⟩ := hC
  obtain ⟨i, hi, hz, hsz, hby⟩ := info_parts hinfo
  by_cases h0 : l.length = 0
  · have hl0 := List.length_eq_zero_iff.1 h0
    subst hl0
    have hrun := run_append_empty (P := P) (W := W) t o.type 3 i ht hi b A c
    have q := h (.slice (some ⟨b, 0, none⟩) 0 0) W ⟨some ⟨b, 0, none⟩, 0, rfl, ⟨rfl, Nat.zero_le _, fun q => absurd q (by simp)⟩, Nat.le_refl _⟩ (Fr.refl _ _)
    unfold Oper.wp
    simp only [List.length_nil] at hx
    simp [execOp, ho, resolve, invoke, builtin, hs, hx, hrun, Result.andThen]
    exact q
  · obtain ⟨ad, rfl, hcell⟩ := hC.2.2 (by omega)
    obtain ⟨v', w', hrun, r1, r2⟩ := run_append_arg_grows (P := P) W t o.type 3 i (.int .i64 0) 1 8 ht hi hz hsz hby rfl (by decide) ⟨b, 0, none⟩ 0 0 [] rfl (fun j u hj => by simp at hj) ad l.length c (nums .i64 l) (by simp [nums]) (fun j u hu => by
      simp only [nums, List.getElem?_map] at hu
      obtain ⟨x, hx, rfl⟩ := Option.map_eq_some_iff.1 hu
      obtain ⟨cs, hcl, hK, hcc⟩ := hcell j x hx
      obtain rfl := hK
      have q := hcc 0 _ rfl
      simpa [Kd.int, Kd.scalar] using q) (by omega) (by unfold maxLen; omega) (by omega)
    rw [Nat.zero_add, List.nil_append] at r1
    have q := h v' w' (IntsC.of_own r1) ((Fr.refl _ _).grown r2 (fun k hk => by cases hk))
    unfold Oper.wp
    simp [execOp, ho, resolve, invoke, builtin, hs, hx, hrun, Result.andThen]
    exact q
end
end Go.Proofs.YtadepdeckapgcaaDoor
end

section
namespace Go.Proofs.YtadepdeckapgcaaDoor.PWitnessTells
open Go.RowKit Go.Proofs.YtadepdeckapgcaaDoorW.PrintWords Go.Proofs.YtadepdeckapgcaaDoorW.PrintLast Go.Proofs.YtadepdeckapgcaaDoorW.PrintMore
attribute [local go_sem] max2_int min2_int max_two min_two max_three min_three max_four min_four
set_option linter.unusedVariables false
set_option linter.unusedSimpArgs false
def logjamlaw37_ask.f (a0 : Int) : Option (Bool × (List (List (S96)))) := some (true, (([(([(⟨1, (([(⟨a0, 1⟩ : S108)] : List (S108)))⟩ : S96)] : List (S96)))] : List (List (S96)))))
set_option maxHeartbeats 8000000 in
set_option maxRecDepth 100000 in
theorem logjamlaw37_ask.calls (a0 : Int) (r1 : Bool) (r2 : List (List (S96))) (w : World) (h : logjamlaw37_ask.f a0 = some (r1, r2)) :
  Calls Tryd.prog 69 #[.int .i64 a0] w fun e w' => ∃ v1_ : Value, e = .returned (.agg #[.bool r1, v1_]) ∧ Kd.N (Kd.slice 96 k96) 93 w' w.heap.size (fun k_ => (w.heap.size ≤ k_)) v1_ r2 ∧ Below w.heap.size w w' := by
 have hu92 := Tryd.underlying92
 have hu108 := Tryd.underlying108
 have hu96 := Tryd.underlying96
 have HB := Aside0.mk (Below.refl w.heap.size w)
 have H : (some (true, (([(([(⟨1, (([(⟨a0, 1⟩ : S108)] : List (S108)))⟩ : S96)] : List (S96)))] : List (List (S96)))))) = some (r1, r2) := h
 clear h
 obtain ⟨y355, hy355⟩ : ∃ y_ : List (S108), y_ = (([(⟨a0, 1⟩ : S108)] : List (S108))) := ⟨_, rfl⟩
 replace H : (some (true, (([(([(⟨1, y355⟩ : S96)] : List (S96)))] : List (List (S96)))))) = some (r1, r2) := by first | (rw [hy355]; with_reducible exact H) | (have H2_ := (Option.bind_some _ _).symm.trans H; rw [hy355]; with_reducible exact H2_) | (have H2_ := (Option.bind_some _ _).symm.trans H; with_reducible exact H2_) | with_reducible exact H | (rw [hy355]; exact H) | exact H
 have Ny355 := Aside0.mk hy355
 clear hy355
 obtain ⟨y358, hy358⟩ : ∃ y_ : List (S96), y_ = (([(⟨1, y355⟩ : S96)] : List (S96))) := ⟨_, rfl⟩
 replace H : (some (true, (([y358] : List (List (S96)))))) = some (r1, r2) := by first | (rw [hy358]; with_reducible exact H) | (have H2_ := (Option.bind_some _ _).symm.trans H; rw [hy358]; with_reducible exact H2_) | (have H2_ := (Option.bind_some _ _).symm.trans H; with_reducible exact H2_) | with_reducible exact H | (rw [hy358]; exact H) | exact H
 have Ny358 := Aside0.mk hy358
 clear hy358
 obtain ⟨y361, hy361⟩ : ∃ y_ : List (List (S96)), y_ = (([y358] : List (List (S96)))) := ⟨_, rfl⟩
 replace H : (some (true, y361)) = some (r1, r2) := by first | (rw [hy361]; with_reducible exact H) | (have H2_ := (Option.bind_some _ _).symm.trans H; rw [hy361]; with_reducible exact H2_) | (have H2_ := (Option.bind_some _ _).symm.trans H; with_reducible exact H2_) | with_reducible exact H | (rw [hy361]; exact H) | exact H
 have Ny361 := Aside0.mk hy361
 clear hy361
 simp only [Option.some.injEq, Prod.mk.injEq] at H
 obtain ⟨rfl, rfl⟩ := H
 go_enter Tryd.func69, Tryd.ntmps69
 go_wp2_with (first | ((with_reducible refine gate_dst (N := 2) rfl ?_); refine box_event ?hg (N := 2) ?hd (cs := #[.bool false, .slice none 0 0]) (t := 92) ?hr ?_; (case hd => rfl); (case hg => rfl); (case hr => first | (go_simp; done) | (go_simp; rfl)); intro gb354 hg w2 hbox hb; have n0_ := Aside0.mk (below_step (by repeat (first | (with_reducible first | exact HB.out | apply below_alloc | apply pw_below_drewN | apply below_drew1) | exact HB.out)) hb); have n1_ := Aside0.mk (hbox); have n2_ := Aside0.mk ((by rw [hg]; exact (below_size (by repeat (first | (with_reducible first | exact HB.out | apply below_alloc | apply pw_below_drewN | apply below_drew1) | exact HB.out))) : w.heap.size ≤ gb354)); have n3_ := Aside0.mk ((by rw [hg]; exact (below_size (by repeat (first | (with_reducible first | exact HB.out | apply below_alloc | apply pw_below_drewN | apply below_drew1) | exact HB.out))) : w.heap.size ≤ gb354)); clear HB; have HB := n0_; have BK354 := n1_; have GW354 := n2_; have GE354 := n3_; clear n0_ n1_ n2_ n3_; clear hb hbox hg) | ((with_reducible refine gate_dst (N := 5) rfl ?_); refine Kd.R_lit k108 _ 108 ?hg (N := 5) ?hd (xs := ([(⟨a0, 1⟩ : S108)] : List (S108))) (inner := [.int .i64 a0, .int .i64 1]) (ok := fun _ => True) (okp := fun _ => True) ?hr ?hp (fun _ hk => hk) trivial (Below.refl _ _) (Nat.le_refl _) (by simp) ?_; (case hd => rfl); (case hg => rfl); (case hr => first | (go_simp; done) | (go_simp; rfl)); (case hp => exact (Reps.c2 (show Kd.M k108 _ _ _ (⟨a0, 1⟩ : S108) [.int .i64 a0, .int .i64 1] from (k108_mkM _ _ _ (⟨a0, 1⟩ : S108) )) (Reps.none _ _))); intro v356 w3 ho4 hb hg_ hnew_; clear hg_ hnew_; (first | rw [← Ny355.out] at ho4 | (simp only [Int.reduceToNat] at ho4; rw [← Ny355.out] at ho4)); have n0_ := Aside0.mk (Kd.R_lower (Kd.R_newM (M := fun k_ => (w.heap.size ≤ k_)) ho4 (below_size (by repeat (first | (with_reducible first | exact HB.out | apply below_alloc | apply pw_below_drewN | apply below_drew1 | refine below_set ?_ GE354.out) | exact HB.out))) (fun k_ h_ => h_)) (below_size (by repeat (first | (with_reducible first | exact HB.out | apply below_alloc | apply pw_below_drewN | apply below_drew1 | refine below_set ?_ GE354.out) | exact HB.out)))); have n1_ := Aside0.mk (blk_below (g := gb354) (o := .cells #[.bool false, .slice none 0 0] 92 (0, 0)) (by (with_reducible repeat (first | refine blk_drewN ?_ _ | refine blk_drew ?_ | refine blk_alloc ?_ _)); exact BK354.out) hb); have n2_ := Aside0.mk (below_step (by repeat (first | (with_reducible first | exact HB.out | apply below_alloc | apply pw_below_drewN | apply below_drew1 | refine below_set ?_ GE354.out) | exact HB.out)) hb); clear BK354; clear HB; have HO357 := n0_; have BK354 := n1_; have HB := n2_; clear n0_ n1_ n2_; clear hb ho4; obtain ⟨Ao5, co5, eo5⟩ := Kd.R_slice HO357.out; subst eo5) | ((with_reducible refine gate_dst (N := 7) rfl ?_); refine Kd.N_lit k96 _ 96 ?hg (N' := 7) ?hd (xs := ([(⟨1, y355⟩ : S96)] : List (S96))) (inner := [.int .i64 1, .slice Ao5 y355.length co5]) (ok := (fun k_ => (w.heap.size ≤ k_) ∧ k_ ≠ gb354)) (okp := (fun k_ => (w.heap.size ≤ k_) ∧ k_ ≠ gb354)) ?hr ?hp (fun _ hk => hk) ((show ∀ k_, w3.heap.size ≤ k_ → (fun k_ => (w.heap.size ≤ k_) ∧ k_ ≠ gb354) k_ from fun k_ hk => ⟨(Nat.le_trans (below_size (by repeat (first | (with_reducible first | exact HB.out | apply below_alloc | apply pw_below_drewN | apply below_drew1 | refine below_set ?_ GE354.out) | exact HB.out))) hk), Kd.freshB (g := gb354) (o := .cells #[.bool false, .slice none 0 0] 92 (0, 0)) (by (with_reducible repeat (first | refine blk_drewN ?_ _ | refine blk_drew ?_ | refine blk_alloc ?_ _)); exact BK354.out) k_ hk⟩) _ (Nat.le_refl _)) (Below.refl _ _) (Nat.le_refl _) (by simp) ?_; (case hd => rfl); (case hg => rfl); (case hr => first | (go_simp; done) | (go_simp; rfl)); (case hp => exact (Reps.c2 (show Kd.FK k96 _ _ (⟨1, y355⟩ : S96) [.int .i64 1, .slice Ao5 y355.length co5] from (k96_mkF _ _ (⟨1, y355⟩ : S96) (Kd.R_reads' (Kd.R_mono (ok' := (fun k_ => (w.heap.size ≤ k_) ∧ k_ ≠ gb354)) (Kd.R_types (HO357.out) BK354.out (by decide)) (fun k_ hk => ⟨hk.1.1, hk.2⟩))).2.1 (Kd.R_F (Kd.R_mono (ok' := (fun k_ => (w.heap.size ≤ k_) ∧ k_ ≠ gb354)) (Kd.R_types (HO357.out) BK354.out (by decide)) (fun k_ hk => ⟨hk.1.1, hk.2⟩))))) (Reps.none _ _))); intro v359 w6 ho7 hb hg_ hnew_; clear hg_ hnew_; (first | rw [← Ny358.out] at ho7 | (simp only [Int.reduceToNat] at ho7; rw [← Ny358.out] at ho7)); have n0_ := Aside0.mk (Kd.N_lower ho7 (below_size (by repeat (first | (with_reducible first | exact HB.out | apply below_alloc | apply pw_below_drewN | apply below_drew1 | refine below_set ?_ GE354.out) | exact HB.out)))); have n1_ := Aside0.mk (blk_below (g := gb354) (o := .cells #[.bool false, .slice none 0 0] 92 (0, 0)) (by (with_reducible repeat (first | refine blk_drewN ?_ _ | refine blk_drew ?_ | refine blk_alloc ?_ _)); exact BK354.out) hb); have n2_ := Aside0.mk (below_step (by repeat (first | (with_reducible first | exact HB.out | apply below_alloc | apply pw_below_drewN | apply below_drew1 | refine below_set ?_ GE354.out) | exact HB.out)) hb); clear BK354; clear HB; clear HO357; have HO360 := n0_; have BK354 := n1_; have HB := n2_; clear n0_ n1_ n2_; clear hb ho7; obtain ⟨Ao8, co8, eo8⟩ := Kd.N_slice HO360.out; subst eo8) | ((with_reducible refine gate_dst (N := 8) rfl ?_); refine Kd.N_lit (Kd.slice 96 k96) _ 93 ?hg (N' := 8) ?hd (xs := ([y358] : List (List (S96)))) (inner := [.slice Ao8 y358.length co8]) (ok := (fun k_ => (w.heap.size ≤ k_) ∧ k_ ≠ gb354)) (okp := (fun k_ => (w.heap.size ≤ k_) ∧ k_ ≠ gb354)) ?hr ?hp (fun _ hk => hk) ((show ∀ k_, w6.heap.size ≤ k_ → (fun k_ => (w.heap.size ≤ k_) ∧ k_ ≠ gb354) k_ from fun k_ hk => ⟨(Nat.le_trans (below_size (by repeat (first | (with_reducible first | exact HB.out | apply below_alloc | apply pw_below_drewN | apply below_drew1 | refine below_set ?_ GE354.out) | exact HB.out))) hk), Kd.freshB (g := gb354) (o := .cells #[.bool false, .slice none 0 0] 92 (0, 0)) (by (with_reducible repeat (first | refine blk_drewN ?_ _ | refine blk_drew ?_ | refine blk_alloc ?_ _)); exact BK354.out) k_ hk⟩) _ (Nat.le_refl _)) (Below.refl _ _) (Nat.le_refl _) (by simp) ?_; (case hd => rfl); (case hg => rfl); (case hr => first | (go_simp; done) | (go_simp; rfl)); (case hp => exact (Reps.one (show Kd.FK (Kd.slice 96 k96) _ _ y358 [.slice Ao8 y358.length co8] from (Kd.FK_slice_mk (Kd.N_reads' (Kd.N_mono (ok' := (fun k_ => (w.heap.size ≤ k_) ∧ k_ ≠ gb354)) (HO360.out) (fun k_ hk => ⟨hk.1, hk.2⟩))).2.1 (Kd.N_F (Kd.N_mono (ok' := (fun k_ => (w.heap.size ≤ k_) ∧ k_ ≠ gb354)) (HO360.out) (fun k_ hk => ⟨hk.1, hk.2⟩))))) (Reps.none _ _))); intro v362 w9 ho10 hb hg_ hnew_; clear hg_ hnew_; (first | rw [← Ny361.out] at ho10 | (simp only [Int.reduceToNat] at ho10; rw [← Ny361.out] at ho10)); have n0_ := Aside0.mk (Kd.N_lower ho10 (below_size (by repeat (first | (with_reducible first | exact HB.out | apply below_alloc | apply pw_below_drewN | apply below_drew1 | refine below_set ?_ GE354.out) | exact HB.out)))); have n1_ := Aside0.mk (blk_below (g := gb354) (o := .cells #[.bool false, .slice none 0 0] 92 (0, 0)) (by (with_reducible repeat (first | refine blk_drewN ?_ _ | refine blk_drew ?_ | refine blk_alloc ?_ _)); exact BK354.out) hb); have n2_ := Aside0.mk (below_step (by repeat (first | (with_reducible first | exact HB.out | apply below_alloc | apply pw_below_drewN | apply below_drew1 | refine below_set ?_ GE354.out) | exact HB.out)) hb); clear BK354; clear HB; clear HO360; have HO363 := n0_; have BK354 := n1_; have HB := n2_; clear n0_ n1_ n2_; clear hb ho10; obtain ⟨Ao11, co11, eo11⟩ := Kd.N_slice HO363.out; subst eo11; have hcz12_0 : w9.cell? ⟨gb354, 0, none⟩ = some (.bool false) := (blk_cell BK354.out 0).trans rfl; have hcz12_1 : w9.cell? ⟨gb354, 1, none⟩ = some (.slice none 0 0) := (blk_cell BK354.out 1).trans rfl; have hfz12_0 := blk_frozen BK354.out 0; have hfz12_1 := blk_frozen BK354.out 1))
 refine bodyPost_ret (results_cell_row rfl _ _ gb354 92 #[.bool true, .slice Ao11 y361.length co11] (0, 0) _ rfl (by (with_reducible repeat (first | refine blk_drewN ?_ _ | refine blk_drew ?_ | refine blk_alloc ?_ _)); refine blk_put (cs := #[.bool true, .slice none 0 0]) ?_ 1 _ rfl; (with_reducible repeat (first | refine blk_drewN ?_ _ | refine blk_drew ?_ | refine blk_alloc ?_ _)); refine blk_put (cs := #[.bool false, .slice none 0 0]) ?_ 0 _ rfl; (with_reducible repeat (first | refine blk_drewN ?_ _ | refine blk_drew ?_ | refine blk_alloc ?_ _)); exact BK354.out) Tryd.underlying92 rfl (by kernel_rfl)) rfl ?_
 exact ⟨_, by first | rfl | (simp [errW_none, errW_some] <;> rfl) | (simp [*, errW_none, errW_some] <;> rfl), by (with_reducible repeat (first | apply Kd.N_alloc | apply Kd.N_drewN | apply Kd.N_drew)); exact Kd.N_mono (Kd.N_far (p := ⟨gb354, 1, none⟩) (Kd.N_far (p := ⟨gb354, 0, none⟩) (Kd.N_mono HO363.out (fun k_ hk => (⟨hk, hk.2⟩ : _ ∧ k_ ≠ gb354))) (fun _ hk => hk.2) (.bool true)) (fun _ hk => hk.2) (.slice Ao11 y361.length co11)) (fun _ hk => hk.1.1), by repeat (first | (with_reducible first | exact HB.out | apply below_alloc | apply pw_below_drewN | apply below_drew1 | refine below_set ?_ GE354.out) | exact HB.out)⟩
end Go.Proofs.YtadepdeckapgcaaDoor.PWitnessTells
end

section
namespace Go.Proofs.YtadepdeckapgcaaDoor
open Go.RowKit Go.Proofs.YtadepdeckapgcaaDoorW.PrintWords Go.Proofs.YtadepdeckapgcaaDoorW.PrintLast Go.Proofs.YtadepdeckapgcaaDoorW.PrintMore PWitnessTells
set_option linter.unusedSimpArgs false
set_option linter.unusedVariables false
theorem flat_get {α : Type} {sz : Nat} : ∀ {l : List (α × List Value)} (_ : ∀ p ∈ l, p.2.length = sz) (j : Nat) (p : α × List Value) (_ : l[j]? = some p) (i : Nat) (_ : i < sz), (l.flatMap Prod.snd)[j * sz + i]? = p.2[i]?
  | [], _, j, p, hj, _, _ => by simp at hj
  | a :: r, h, 0, p, hj, i, hi => by
    simp at hj; subst hj
    rw [List.flatMap_cons, Nat.zero_mul, Nat.zero_add, List.getElem?_append_left (by rw [h a (by simp)]; exact hi)]
  | a :: r, h, j + 1, p, hj, i, hi => by
    have ha := h a (by simp)
    have ih := flat_get (l := r) (fun q hq => h q (by simp [hq])) j p (by simpa using hj) i hi
    rw [List.flatMap_cons, List.getElem?_append_right (by rw [ha, Nat.succ_mul]; omega), ha, show (j + 1) * sz + i - sz = j * sz + i by rw [Nat.succ_mul]; omega]
    exact ih
theorem C_of_blk {α : Type} (d : Kd α) {W : World} {b : Nat} {t : TypeId} (l : List (α × List Value)) (h : Blk W b (l.flatMap Prod.snd).toArray t) (hK : ∀ p ∈ l, d.K W p.1 p.2) (hm : l.length ≤ 1000000) : Kd.C d W (some ⟨b, 0, none⟩) l.length (l.map Prod.fst) := by
  refine ⟨List.length_map _, by omega, fun _ => ⟨⟨b, 0, none⟩, rfl, fun j q hj => ?_⟩⟩
  rw [List.getElem?_map] at hj
  obtain ⟨p, hp, rfl⟩ := Option.map_eq_some_iff.1 hj
  have hk := hK p (List.mem_of_getElem? hp)
  have hl := d.K_len hk
  refine ⟨p.2, hl, hk, fun i u hu => ?_⟩
  obtain ⟨hil, _⟩ := List.getElem?_eq_some_iff.1 hu
  rw [add_plain, h.cell, List.getElem?_toArray, flat_get (fun p hp => d.K_len (hK p hp)) j p hp i (by omega)]
  exact hu
def wayL (t : Int) : List (List NTerm) := [[⟨1, [⟨t, 1⟩]⟩]]
def nodeL (t : Int) : NNode := ⟨true, wayL t⟩
def nodesL : List NNode := [nodeL 1, nodeL 0, nodeL 1]
theorem cAsk (w : World) (t : Int) : Calls Tryd.prog 69 #[.int .i64 t] w fun e w' => ∃ A c, e = .returned (.agg #[.bool true, .slice A 1 c]) ∧ kWay.C w' A 1 (wayL t) ∧ 1 ≤ c ∧ Quiet w w' := by
  refine (logjamlaw37_ask.calls t true (wayL t) w rfl).mono fun e w' ⟨v, he, hN, hb⟩ => ?_
  obtain ⟨A, c, rfl, hl, hC⟩ := Kd.N_reads hN
  exact ⟨A, c, he, hC, hl, Quiet.of hb⟩
theorem lives_rep (w w1 w2 w3 : World) (A1 A2 A3 : Option Addr) (c1 c2 c3 : Nat) (q1 : Quiet (w.alloc (.cells #[.int .i64 0, .int .i64 1, .int .i64 2] 3)) w1) (h1 : kWay.C w1 A1 1 (wayL 1)) (l1 : 1 ≤ c1) (q2 : Quiet w1 w2) (h2 : kWay.C w2 A2 1 (wayL 0)) (l2 : 1 ≤ c2) (q3 : Quiet w2 w3) (h3 : kWay.C w3 A3 1 (wayL 1)) (l3 : 1 ≤ c3) (W : World)
    (qW : Quiet (w3.alloc (.cells #[.bool true, .slice A1 1 c1, .bool true, .slice A2 1 c2, .bool true, .slice A3 1 c3] 92)) W) :
    RepC W (.agg #[.int .i64 0, .slice (some ⟨w.heap.size, 0, none⟩) 3 3, .slice (some ⟨w3.heap.size, 0, none⟩) 3 3]) 0 [0, 1, 2] nodesL := by
  refine RepC.quiet ⟨some ⟨w.heap.size, 0, none⟩, 3, some ⟨w3.heap.size, 0, none⟩, 3, rfl, ?_, by decide, ?_, by decide⟩ qW
  · have b1 : Blk (w.alloc (.cells #[.int .i64 0, .int .i64 1, .int .i64 2] 3)) w.heap.size #[.int .i64 0, .int .i64 1, .int .i64 2] 3 := Blk.new _ _ _
    exact C_of_blk (Kd.int .i64) [(0, [.int .i64 0]), (1, [.int .i64 1]), (2, [.int .i64 2])] ((((b1.quiet q1).quiet q2).quiet q3).alloc _) (fun p hp => by simp at hp; rcases hp with rfl | rfl | rfl <;> rfl) (by decide)
  · have hq : Quiet w3 (w3.alloc (.cells #[.bool true, .slice A1 1 c1, .bool true, .slice A2 1 c2, .bool true, .slice A3 1 c3] 92)) := (Fr.refl _ _).alloc _
    refine C_of_blk k92 [(nodeL 1, [.bool true, .slice A1 1 c1]), (nodeL 0, [.bool true, .slice A2 1 c2]), (nodeL 1, [.bool true, .slice A3 1 c3])] (Blk.new _ _ _) (fun p hp => ?_) (by simp)
    simp at hp
    rcases hp with rfl | rfl | rfl
    · exact k92_mk _ (nodeL 1) l1 (Kd.C_below (Kd.C_below (Kd.C_below h1 q2.bel) q3.bel) hq.bel)
    · exact k92_mk _ (nodeL 0) l2 (Kd.C_below (Kd.C_below h2 q3.bel) hq.bel)
    · exact k92_mk _ (nodeL 1) l3 (Kd.C_below h3 hq.bel)
theorem lv_core : coreR 0 [0, 1, 2] nodesL 1 = [0, 1] := by decide +kernel
theorem lv_lackK : lackK 0 [0, 1, 2] nodesL 2 = 0 := by decide +kernel
theorem lv_lackB : lackB 0 [0, 1, 2] nodesL 2 = true := by decide +kernel
theorem lv_sound : soundR 0 [0, 1, 2] nodesL = true := by decide +kernel
theorem lv_match : matchR 0 [0, 1, 2] nodesL nodesL = true := by decide +kernel
theorem lv_match0 : matchR 0 [0, 1, 2] nodesL [] = false := by decide +kernel
theorem lv_part : soundR (partT 0 [0, 1, 2] nodesL) (partD (ofL 0 [0, 2]) 0 [0, 1, 2] nodesL) (partN (ofL 0 [0, 2]) 0 [0, 1, 2] nodesL) = false := by decide +kernel
theorem lv_sns : Sns nodesL := by
  refine ⟨by decide, fun x hx => ?_⟩
  have : x = nodeL 1 ∨ x = nodeL 0 := by unfold nodesL at hx; simp at hx; rcases hx with h | h | h <;> simp [h]
  rcases this with rfl | rfl
  all_goals
    refine ⟨by decide, fun y hy => ?_⟩
    simp [nodeL, wayL] at hy
    subst hy
    exact ⟨by decide, fun m hm => by simp at hm; subst hm; decide⟩
set_option maxRecDepth 100000 in
set_option maxHeartbeats 1000000 in
theorem cLives (w : World) (hT : Tb w) : Calls Tryd.prog 27 #[] w fun e w' => e = .returned (.bool true) ∧ Quiet w w' := by
  have HT := Lib.hid hT; clear hT
  go_enter Tryd.func27, Tryd.ntmps27
  go_wp2_with fail
  refine (cAsk _ 1).mono ?_
  rintro e w1 ⟨A1, c1, rfl, h1, l1, q1⟩
  have H1 := Lib.hid h1; have L1 := Lib.hid l1; have Q1 := Lib.hid q1; clear h1 l1 q1
  go_wp2_with fail
  refine (cAsk _ 0).mono ?_
  rintro e w2 ⟨A2, c2, rfl, h2, l2, q2⟩
  have H2 := Lib.hid h2; have L2 := Lib.hid l2; have Q2 := Lib.hid q2; clear h2 l2 q2
  go_wp2_with fail
  refine (cAsk _ 1).mono ?_
  rintro e w3 ⟨A3, c3, rfl, h3, l3, q3⟩
  have H3 := Lib.hid h3; have L3 := Lib.hid l3; have Q3 := Lib.hid q3; clear h3 l3 q3
  have HR := Lib.hid (lives_rep w w1 w2 w3 A1 A2 A3 c1 c2 c3 Q1.out H1.out L1.out Q2.out H2.out L2.out Q3.out H3.out L3.out)
  have HQ : Hid (Quiet w w3) := Lib.hid ((((Fr.refl _ _).alloc _).quiet Q1.out |>.quiet Q2.out).quiet Q3.out)
  clear H1 L1 Q1 H2 L2 Q2 H3 L3 Q3
  go_wp2_with fail
  obtain ⟨W4, hW4⟩ : ∃ W, W = (w3.alloc (.cells #[.bool true, .slice A1 1 c1, .bool true, .slice A2 1 c2, .bool true, .slice A3 1 c3] 92)).alloc (.cells #[.int .i64 0, .slice (some ⟨w.heap.size, 0, none⟩) 3 3, .slice (some ⟨w3.heap.size, 0, none⟩) 3 3] 25) := ⟨_, rfl⟩
  have HR4 : Hid (RepC W4 (.agg #[.int .i64 0, .slice (some ⟨w.heap.size, 0, none⟩) 3 3, .slice (some ⟨w3.heap.size, 0, none⟩) 3 3]) 0 [0, 1, 2] nodesL) := Lib.hid (HR.out W4 (by rw [hW4]; exact (Fr.refl _ _).alloc _))
  have HY4 : Hid (Blk W4 (w3.heap.size + 1) #[.int .i64 0, .slice (some ⟨w.heap.size, 0, none⟩) 3 3, .slice (some ⟨w3.heap.size, 0, none⟩) 3 3] 25) := Lib.hid (by rw [hW4]; simpa using Blk.new (w3.alloc (.cells #[.bool true, .slice A1 1 c1, .bool true, .slice A2 1 c2, .bool true, .slice A3 1 c3] 92)) #[.int .i64 0, .slice (some ⟨w.heap.size, 0, none⟩) 3 3, .slice (some ⟨w3.heap.size, 0, none⟩) 3 3] 25)
  have HQ4 : Hid (Quiet w W4) := Lib.hid (by rw [hW4]; exact (HQ.out.alloc _).alloc _)
  clear HR HQ
  rw [← hW4]
  clear hW4
  refine (cCore (HT.out.quiet HQ4.out) HR4.out 1).mono ?_
  rintro e w5 ⟨v5, rfl, hi5, q5⟩
  rw [lv_core] at hi5
  obtain ⟨Ac, cc, rfl, hC, hcc⟩ := hi5
  obtain ⟨ac, rfl, hc1⟩ := at_ints hC 1 (by decide)
  have hc1' : w5.cell? ⟨ac.block, ac.off + 1, none⟩ = some (.int .i64 1) := hc1
  have HC1 := Lib.hid hc1'
  have HR5 := Lib.hid (HR4.out.quiet q5); have HY5 := Lib.hid (HY4.out.quiet q5); have HQ5 := Lib.hid (HQ4.out.quiet q5)
  have y0 := HY5.out.cell 0; have y1 := HY5.out.cell 1; have y2 := HY5.out.cell 2
  simp at y0 y1 y2
  clear HR4 HY4 HQ4 q5 hC hcc hc1 hc1'
  go_wp2_with fail
  refine (cLack HR5.out 2).mono ?_
  rw [lv_lackK, lv_lackB]
  rintro e w6 ⟨rfl, q6⟩
  have HR6 := Lib.hid (HR5.out.quiet q6); have HY6 := Lib.hid (HY5.out.quiet q6); have HQ6 := Lib.hid (HQ5.out.quiet q6); have HC6 := Lib.hid (Quiet.cellA q6 HC1.out)
  clear HR5 HY5 HQ5 HC1 q6 y0 y1 y2
  have y0 := HY6.out.cell 0; have y1 := HY6.out.cell 1; have y2 := HY6.out.cell 2
  simp at y0 y1 y2
  go_wp2_with fail
  refine (cSound HR6.out).mono ?_
  rw [lv_sound]
  rintro e w7 ⟨rfl, q7⟩
  have HR7 := Lib.hid (HR6.out.quiet q7); have HY7 := Lib.hid (HY6.out.quiet q7); have HQ7 := Lib.hid (HQ6.out.quiet q7); have HC7 := Lib.hid (Quiet.cellA q7 HC6.out)
  clear HR6 HY6 HQ6 HC6 q7 y0 y1 y2
  have y0 := HY7.out.cell 0; have y1 := HY7.out.cell 1; have y2 := HY7.out.cell 2
  simp at y0 y1 y2
  have HN7 : Hid (NodesC w7 (.slice (some ⟨w3.heap.size, 0, none⟩) 3 3) nodesL) := Lib.hid (by
    obtain ⟨B1, b1, B2, b2, e, _, _, g1, g2⟩ := HR7.out
    injection e with e
    have e2 := congrArg (fun a : Array Value => a[2]?) e
    simp at e2
    exact ⟨B2, b2, by rw [← e2.1, ← e2.2.2]; rfl, g1, g2⟩)
  go_wp2_with fail
  refine (cMatch HR7.out HN7.out).mono ?_
  rw [lv_match]
  rintro e w8 ⟨rfl, q8⟩
  have HR8 := Lib.hid (HR7.out.quiet q8); have HY8 := Lib.hid (HY7.out.quiet q8); have HQ8 := Lib.hid (HQ7.out.quiet q8); have HC8 := Lib.hid (Quiet.cellA q8 HC7.out)
  clear HR7 HY7 HQ7 HC7 HN7 q8 y0 y1 y2
  have y0 := HY8.out.cell 0; have y1 := HY8.out.cell 1; have y2 := HY8.out.cell 2
  simp at y0 y1 y2
  have HN8 : Hid (NodesC w8 (.slice none 0 0) []) := Lib.hid ⟨none, 0, rfl, ⟨rfl, Nat.zero_le _, fun q => absurd q (by simp)⟩, Nat.le_refl _⟩
  go_wp2_with fail
  refine (cMatch HR8.out HN8.out).mono ?_
  rw [lv_match0]
  rintro e w9 ⟨rfl, q9⟩
  have HR9 := Lib.hid (HR8.out.quiet q9); have HY9 := Lib.hid (HY8.out.quiet q9); have HQ9 := Lib.hid (HQ8.out.quiet q9); have c9 := Quiet.cellA q9 HC8.out
  clear HR8 HY8 HQ8 HC8 HN8 q9 y0 y1 y2
  have y0 := HY9.out.cell 0; have y1 := HY9.out.cell 1; have y2 := HY9.out.cell 2
  simp at y0 y1 y2
  have HI9 : Hid (IntsC (w9.alloc (.cells #[.int .i64 0, .int .i64 2] 3)) (.slice (some ⟨w9.heap.size, 0, none⟩) 2 2) [0, 2]) := Lib.hid ⟨some ⟨w9.heap.size, 0, none⟩, 2, rfl, C_of_blk (Kd.int .i64) [(0, [.int .i64 0]), (2, [.int .i64 2])] (Blk.new _ _ _) (fun p hp => by simp at hp; rcases hp with rfl | rfl <;> rfl) (by decide), by decide⟩
  have HR10 := Lib.hid (HR9.out.quiet (show Quiet w9 (w9.alloc (.cells #[.int .i64 0, .int .i64 2] 3)) from (Fr.refl _ _).alloc _))
  have HQ10 := Lib.hid (HQ9.out.quiet (show Quiet w9 (w9.alloc (.cells #[.int .i64 0, .int .i64 2] 3)) from (Fr.refl _ _).alloc _))
  go_wp2_with fail
  refine (cPart HR10.out HI9.out lv_sns).mono ?_
  rintro e w11 ⟨v11, rfl, r11, q11⟩
  have HR11 := Lib.hid r11; have HQ11 := Lib.hid (HQ10.out.quiet q11)
  clear HR9 HY9 HQ9 HR10 HQ10 HI9 r11 q11 y0 y1 y2 c9
  go_wp2_with fail
  refine (cSound HR11.out).mono ?_
  rw [lv_part]
  rintro e w12 ⟨rfl, q12⟩
  have HQ12 := Lib.hid (HQ11.out.quiet q12)
  clear q12 HR11 HQ11
  go_wp2
  go_ret
  exact ⟨rfl, HQ12.out⟩
end Go.Proofs.YtadepdeckapgcaaDoor
end

section
namespace Go.Proofs.YtadepdeckapgcaaDoor
open Go.RowKit Go.Proofs.YtadepdeckapgcaaDoorW.PrintWords Go.Proofs.YtadepdeckapgcaaDoorW.PrintLast Go.Proofs.YtadepdeckapgcaaDoorW.PrintMore PWitnessTells
set_option linter.unusedSimpArgs false
set_option linter.unusedVariables false
structure WtLv (w0 : World) (cs : Array Value) (B : Nat) (time : Int) (D : List Int) (N : List NNode) (v3 : Value) (L : List NNode) (vs : Value) (S : List Int) (wz : World) : Prop where
  x : Blk wz w0.heap.size cs 25
  r : RepR wz B (.agg cs) time D N
  b : B ≤ wz.heap.size
  l : NodesC wz v3 L
  s : IntsC wz vs S
  t : Tb wz
  q : Quiet w0 wz
theorem WtLv.quiet {w0 : World} {cs : Array Value} {B : Nat} {time : Int} {D : List Int} {N : List NNode} {v3 : Value} {L : List NNode} {vs : Value} {S : List Int} {wz wy : World} (h : WtLv w0 cs B time D N v3 L vs S wz) (q : Quiet wz wy) : WtLv w0 cs B time D N v3 L vs S wy :=
  ⟨h.x.quiet q, h.r.quiet q, Nat.le_trans h.b q.size, h.l.quiet q, h.s.quiet q, h.t.quiet q, h.q.quiet q⟩
def WtFork (w0 : World) (cs : Array Value) (B : Nat) (time : Int) (D : List Int) (N : List NNode) (v3 : Value) (L : List NNode) (vs : Value) (S : List Int) (v79 v80 : Value) (wz : World) : Prop :=
  ∃ b : Nat, v80 = .slice (some ⟨b, 0, none⟩) 0 0 ∧ RepC wz v79 time D N ∧ WtLv w0 cs B time D N v3 L vs S wz
theorem cIntsSame {w : World} {v v2 : Value} {s : List Int} (h1 : IntsC w v s) (h2 : IntsC w v2 s) : Calls Tryd.prog 21 #[v, v2] w fun e w' => e = .returned (.bool true) ∧ Quiet w w' :=
  (cInts h1 h2).mono fun e w' ⟨he, q⟩ => ⟨by rw [he]; simp, q⟩
theorem cSameSame {w : World} {v v2 : Value} {time : Int} {d : List Int} {n : List NNode} (h1 : RepC w v time d n) (h2 : RepC w v2 time d n) : Calls Tryd.prog 24 #[v, v2] w fun e w' => e = .returned (.bool true) ∧ Quiet w w' :=
  (cSame h1 h2).mono fun e w' ⟨he, q⟩ => ⟨by rw [he, repE_refl], q⟩
def mxz (r : Int) : Int := if r < 0 then 0 else r
theorem max_z (ats : Array TypeId) (ty : TypeId) (k k' : IntKind) (r : Int) : Builtin.max_ ats ty #[.int k r, .int k' 0] = pure (.int k (mxz r)) := by
  rw [max_two, max2_int]; rfl
theorem cLackZ {w : World} {v : Value} {time : Int} {d : List Int} {n : List NNode} (h : RepC w v time d n) (t : Int) : Calls Tryd.prog 15 #[v, .int .i64 t] w fun e w' => e = .returned (.tuple #[.int .i64 0, .int .i64 (mxz (lackR time d n t)), .bool (decide (0 ≤ lackR time d n t))]) ∧ Quiet w w' := by
  refine (cLack h t).mono fun e w' ⟨he, q⟩ => ⟨?_, q⟩
  have e1 : lackK time d n t = mxz (lackR time d n t) := by unfold lackK mxz; split <;> split <;> omega
  rw [he, e1]; rfl
attribute [local go_sem] max_z
set_option maxRecDepth 100000 in
set_option maxHeartbeats 4000000 in
theorem tellsCore (w : World) (hT : Tb w) (time : Int) (A01 : Option Addr) (c01 : Nat) (d : List Int) (A02 : Option Addr) (c02 : Nat) (n : List NNode) (g1 : Kd.C (Kd.int .i64) w A01 d.length d) (g2 : d.length ≤ c01) (g3 : Kd.C k92 w A02 n.length n) (g4 : n.length ≤ c02)
    (t : Int) (vl : Value) (l : List NNode) (hl : NodesC w vl l) (As : Option Addr) (s : List Int) (cs : Nat) (hs1 : Kd.C (Kd.int .i64) w As s.length s) (hs2 : s.length ≤ cs) :
    Calls Tryd.prog 3 #[.agg #[.int .i64 time, .slice A01 d.length c01, .slice A02 n.length c02], .int .i64 t, .agg #[vl, .slice As s.length cs]] w fun e w' => e = .returned (.bool true) ∧ Quiet w w' := by
  have hsm := hs1.2.1
  obtain ⟨Al, cl, rfl, hl1, hl2⟩ := hl
  have OW := Lib.hid (fun o o' => wOwn36 ((w.alloc o).alloc o') time A01 c01 d A02 c02 n (Kd.C_below g1 (show Quiet w ((w.alloc o).alloc o') by (repeat (first | exact Fr.refl _ _ | assumption | (refine Fr.quiet ?_ (by assumption)) | refine Fr.quiet ?_ HF.out | refine Fr.quiet ?_ HF2.out | refine Fr.drew ?_ | refine Fr.drewN ?_ _ | refine Fr.alloc ?_ _ | refine Fr.setCell ?_ (.inr (by first | omega | (simp; done) | (simp; omega))) _))).bel) g2 (Kd.C_below g3 (show Quiet w ((w.alloc o).alloc o') by (repeat (first | exact Fr.refl _ _ | assumption | (refine Fr.quiet ?_ (by assumption)) | refine Fr.quiet ?_ HF.out | refine Fr.quiet ?_ HF2.out | refine Fr.drew ?_ | refine Fr.drewN ?_ _ | refine Fr.alloc ?_ _ | refine Fr.setCell ?_ (.inr (by first | omega | (simp; done) | (simp; omega))) _))).bel) g4)
  have HT := Lib.hid hT; have HL : Hid (NodesC w (.slice Al l.length cl) l) := Lib.hid ⟨Al, cl, rfl, hl1, hl2⟩; have HS := Lib.hid hs1
  clear hT g1 g3 hl1 hs1
  have HX0 : Hid (Blk ((w.alloc (.cells #[.int .i64 time, .slice A01 d.length c01, .slice A02 n.length c02] 25)).alloc (.cells #[.slice Al l.length cl, .slice As s.length cs] 27)) w.heap.size #[.int .i64 time, .slice A01 d.length c01, .slice A02 n.length c02] 25) := Lib.hid ((Blk.new _ _ _).alloc _)
  have HG0 : Hid (Blk ((w.alloc (.cells #[.int .i64 time, .slice A01 d.length c01, .slice A02 n.length c02] 25)).alloc (.cells #[.slice Al l.length cl, .slice As s.length cs] 27)) (w.heap.size + 1) #[.slice Al l.length cl, .slice As s.length cs] 27) := Lib.hid (by
    have q := Blk.new (w.alloc (.cells #[.int .i64 time, .slice A01 d.length c01, .slice A02 n.length c02] 25)) #[.slice Al l.length cl, .slice As s.length cs] 27
    simpa using q)
  have HQ0 : Hid (Quiet w ((w.alloc (.cells #[.int .i64 time, .slice A01 d.length c01, .slice A02 n.length c02] 25)).alloc (.cells #[.slice Al l.length cl, .slice As s.length cs] 27))) := Lib.hid (by (repeat (first | exact Fr.refl _ _ | assumption | (refine Fr.quiet ?_ (by assumption)) | refine Fr.quiet ?_ HF.out | refine Fr.quiet ?_ HF2.out | refine Fr.drew ?_ | refine Fr.drewN ?_ _ | refine Fr.alloc ?_ _ | refine Fr.setCell ?_ (.inr (by first | omega | (simp; done) | (simp; omega))) _)))
  go_enter Tryd.func3, Tryd.ntmps3
  go_wp2_with fail
  refine (OW.out _ _).mono ?_
  rintro e w1 ⟨v1, v2, rfl, hd, hn, hb⟩
  have q1 := Quiet.of hb
  obtain ⟨D, hD⟩ : ∃ D, D = d.take 70 := ⟨_, rfl⟩
  obtain ⟨N, hN⟩ : ∃ N, N = ownL n := ⟨_, rfl⟩
  rw [← hD] at hd; rw [← hN] at hn
  have HDD : Hid (D.take 70 = D) := Lib.hid (by rw [hD, take_take_same])
  have HNN : Hid (ownL N = N) := Lib.hid (by rw [hN, ownL_idem])
  have HSN : Hid (Sns N) := Lib.hid (by rw [hN]; exact ownL_sns n)
  obtain ⟨A1, c1, rfl⟩ := Kd.R_slice hd
  obtain ⟨A2, c2, rfl⟩ := Kd.R_slice hn
  have HX1 := Lib.hid (HX0.out.quiet q1); have HG1 := Lib.hid (HG0.out.quiet q1); have HQ1 := Lib.hid (HQ0.out.quiet q1)
  have x0 := HX1.out.cell 0; have x1 := HX1.out.cell 1; have x2 := HX1.out.cell 2
  have f0 := HX1.out.free 0; have f1 := HX1.out.free 1; have f2 := HX1.out.free 2
  simp at x0 x1 x2
  obtain ⟨B, hB⟩ : ∃ B, B = ((w.alloc (.cells #[.int .i64 time, .slice A01 d.length c01, .slice A02 n.length c02] 25)).alloc (.cells #[.slice Al l.length cl, .slice As s.length cs] 27)).heap.size := ⟨_, rfl⟩
  rw [← hB] at hd hn
  have hBs : B ≤ w1.heap.size := by rw [hB]; exact q1.size
  have HD := Lib.hid hd; have HN := Lib.hid hn
  have hX2 := ((HX1.out.set 0 (.int .i64 time)).set 1 (.slice A1 D.length c1)).set 2 (.slice A2 N.length c2)
  have hR2 := Kd.R_set (Kd.R_set (Kd.R_set HD.out HX1.out (by decide) 0 (.int .i64 time)) (HX1.out.set 0 (.int .i64 time)) (by decide) 1 (.slice A1 D.length c1)) ((HX1.out.set 0 (.int .i64 time)).set 1 (.slice A1 D.length c1)) (by decide) 2 (.slice A2 N.length c2)
  have hN2 := Kd.R_set (Kd.R_set (Kd.R_set HN.out HX1.out (by decide) 0 (.int .i64 time)) (HX1.out.set 0 (.int .i64 time)) (by decide) 1 (.slice A1 D.length c1)) ((HX1.out.set 0 (.int .i64 time)).set 1 (.slice A1 D.length c1)) (by decide) 2 (.slice A2 N.length c2)
  simp at hX2
  have HQs : Hid (Quiet w (((w1.setCell ⟨w.heap.size, 0, none⟩ (.int .i64 time)).setCell ⟨w.heap.size, 1, none⟩ (.slice A1 D.length c1)).setCell ⟨w.heap.size, 2, none⟩ (.slice A2 N.length c2))) := Lib.hid (((HQ1.out.setCell (.inr (Nat.le_refl _)) _).setCell (.inr (Nat.le_refl _)) _).setCell (.inr (Nat.le_refl _)) _)
  have hG2 := ((HG1.out.set_other (a := ⟨w.heap.size, 0, none⟩) (by show w.heap.size ≠ w.heap.size + 1; omega) (.int .i64 time)).set_other (a := ⟨w.heap.size, 1, none⟩) (by show w.heap.size ≠ w.heap.size + 1; omega) (.slice A1 D.length c1)).set_other (a := ⟨w.heap.size, 2, none⟩) (by show w.heap.size ≠ w.heap.size + 1; omega) (.slice A2 N.length c2)
  have hz2 : B ≤ (((w1.setCell ⟨w.heap.size, 0, none⟩ (.int .i64 time)).setCell ⟨w.heap.size, 1, none⟩ (.slice A1 D.length c1)).setCell ⟨w.heap.size, 2, none⟩ (.slice A2 N.length c2)).heap.size := by simpa using hBs
  have HX2 := Lib.hid hX2; have HR2 := Lib.hid hR2; have HN2 := Lib.hid hN2; have HG2 := Lib.hid hG2; have HZ2 := Lib.hid hz2
  clear hX2 hR2 hN2 hG2 hz2 hd hn hb hD hN hB q1 HX0 HG0 HQ0 OW HD HN
  have a0 := HG1.out.cell 0; have a1 := HG1.out.cell 1
  simp at a0 a1
  go_wp2_with fail
  generalize ((w1.setCell ⟨w.heap.size, 0, none⟩ (.int .i64 time)).setCell ⟨w.heap.size, 1, none⟩ (.slice A1 D.length c1)).setCell ⟨w.heap.size, 2, none⟩ (.slice A2 N.length c2) = w2 at *
  have HL2 := Lib.hid (HL.out.quiet HQs.out)
  refine (cOwn26 HL2.out).mono ?_
  rintro e w3 ⟨v3, rfl, hl3, q3⟩
  obtain ⟨L, hL⟩ : ∃ L, L = ownL l := ⟨_, rfl⟩
  rw [← hL] at hl3
  have HLL : Hid (ownL L = L) := Lib.hid (by rw [hL, ownL_idem])
  have HX3 := Lib.hid (HX2.out.quiet q3); have HG3 := Lib.hid (HG2.out.quiet q3)
  have HV0 : Hid (∀ vs S, IntsC w vs S → WtLv w #[.int .i64 time, .slice A1 D.length c1, .slice A2 N.length c2] B time D N v3 L vs S w3) := Lib.hid (fun vs S h => by
    obtain ⟨_, r1, r2⟩ := Kd.R_reads' (Kd.R_below HR2.out q3.bel)
    exact ⟨HX3.out, ⟨A1, c1, A2, c2, rfl, r2, r1, Kd.R_below HN2.out q3.bel⟩, Nat.le_trans HZ2.out q3.size, hl3, h.quiet (HQs.out.quiet q3), HT.out.quiet (HQs.out.quiet q3), HQs.out.quiet q3⟩)
  clear x0 x1 x2 f0 f1 f2 a0 a1 hl3 hL q3 HX1 HG1 HQ1 HX2 HR2 HN2 HG2 HZ2 HL2 HL HQs HT
  have a0 := HG3.out.cell 0; have a1 := HG3.out.cell 1
  have x0 := HX3.out.cell 0; have x1 := HX3.out.cell 1; have x2 := HX3.out.cell 2
  simp at a0 a1 x0 x1 x2
  have H3 : Hid (∀ W, Blk W w.heap.size #[.int .i64 time, .slice A1 D.length c1, .slice A2 N.length c2] 25 → W.cell? ⟨w.heap.size, 0, none⟩ = some (.int .i64 time) ∧ W.cell? ⟨w.heap.size, 1, none⟩ = some (.slice A1 D.length c1) ∧ W.cell? ⟨w.heap.size, 2, none⟩ = some (.slice A2 N.length c2)) := Lib.hid (fun W h => ⟨by simpa using h.cell 0, by simpa using h.cell 1, by simpa using h.cell 2⟩)
  have HSN1 : Hid (N.length ≤ 1000000) := Lib.hid HSN.out.1
  rcases Nat.lt_or_ge 100 s.length with hc | hc
  case' inl =>
    obtain ⟨S, hS⟩ : ∃ S, S = s.take 100 := ⟨_, rfl⟩
    have hSl : S.length = 100 := by rw [hS, List.length_take]; omega
    have HV := Lib.hid (HV0.out (.slice As 100 cs) S ⟨As, cs, by rw [hSl], by rw [hS]; exact Kd.C_take HS.out (by omega), by omega⟩)
    have hS100 : S.length ≤ 100 := by omega
    have hc0 : (100 : Int) ≤ (cs : Int) := by omega
    clear HV0 HX3 hS hSl
    go_wp2_with fail
    generalize hvs : Value.slice As 100 cs = vs at HV ⊢
  case' inr =>
    obtain ⟨S, hS⟩ : ∃ S, S = s := ⟨_, rfl⟩
    have hS100 : S.length ≤ 100 := by rw [hS]; omega
    have HV := Lib.hid (HV0.out (.slice As s.length cs) S ⟨As, cs, by rw [hS], by rw [hS]; exact HS.out, by rw [hS]; exact hs2⟩)
    clear HV0 HX3 hS
    go_wp2_with fail
    generalize hvs : Value.slice As s.length cs = vs at HV ⊢
  all_goals
    clear hvs
    refine (cOwn36 HV.out.r.c).mono ?_
    rintro e w20 ⟨v27, rfl, hr, hq⟩
    have HR27 : Hid (RepC w20 v27 time D N) := Lib.hid (by have q := hr.c; rw [HDD.out, HNN.out] at q; exact q)
    have Hn := Lib.hid (HV.out.quiet hq)
    clear HV hr hq
    have HV := Hn
    clear Hn
    go_wp2_with fail
    refine (cLackZ HR27.out t).mono ?_
    rintro e w21 ⟨rfl, hq⟩
    have Hn := Lib.hid (HV.out.quiet hq)
    clear HV hq HR27 a0 a1 x0 x1 x2
    have HV := Hn
    clear Hn
    obtain ⟨x0, x1, x2⟩ := H3.out _ HV.out.x
    go_wp2_with fail
    refine (crLack HV.out.r.c t).mono ?_
    rintro e w22 ⟨rfl, hq⟩
    generalize lackR time D N t = r at *
    have Hn := Lib.hid (HV.out.quiet hq)
    clear HV hq x0 x1 x2
    have HV := Hn
    clear Hn
    have HJ := Lib.hid (H3.out _ HV.out.x)
    go_wp2_with fail
    have Hn := Lib.hid (HV.out.quiet (Fr.drew (Fr.refl _ w22)))
    clear HV
    have HV := Hn
    clear Hn
    clear HJ
    have HJ := Lib.hid (H3.out _ HV.out.x)
    refine start_ (n := 33) (S := fun w' => w'.cell? ⟨w.heap.size, 0, none⟩ = some (.int .i64 time) ∧ w'.cell? ⟨w.heap.size, 1, none⟩ = some (.slice A1 D.length c1) ∧ w'.cell? ⟨w.heap.size, 2, none⟩ = some (.slice A2 N.length c2)) (ds := []) #[false, false, false, false, false, false, false, false, false, false, false, false, false, false, false, false, false, false, false, false, false, false, false, false, false, false, false, false, false, false, false, false, false] (by kernel_rfl) rfl rfl ⟨HJ.out.1, HJ.out.2.1, HJ.out.2.2⟩ (fun hHeld => ?_)
    generalize w22.drew = w30 at HV HJ hHeld ⊢
    refine take_ (i := 0) (N := some 36) (v := ?_) (a' := ?_) #[true, false, false, false, false, false, false, false, false, false, false, false, false, false, false, false, false, false, false, false, false, false, false, false, false, false, false, false, false, false, false, false, false] rfl rfl (by kernel_rfl) (fun _ _ _ h => h) (Or.inl ⟨by rfl, ?_⟩) hHeld ?_ ?_
    rotate_left
    · rintro w' ⟨s0, s1, s2⟩
      go_simp
      with_reducible rfl
    rotate_left
    · simp only [Act.put, List.setIfInBounds_toArray, List.set_cons_zero, List.set_cons_succ, i64_w, i32_w]
      rfl
    refine take_ (i := 3) (N := some 39) (v := ?_) (a' := ?_) #[true, false, false, true, false, false, false, false, false, false, false, false, false, false, false, false, false, false, false, false, false, false, false, false, false, false, false, false, false, false, false, false, false] rfl rfl (by kernel_rfl) (fun _ _ _ h => h) (Or.inl ⟨by rfl, ?_⟩) hHeld ?_ ?_
    rotate_left
    · rintro w' ⟨s0, s1, s2⟩
      go_simp
      with_reducible rfl
    rotate_left
    · simp only [Act.put, List.setIfInBounds_toArray, List.set_cons_zero, List.set_cons_succ, i64_w, i32_w]
      rfl
    refine one_ (i := 1) (N := some 37) #[true, true, false, true, false, false, false, false, false, false, false, false, false, false, false, false, false, false, false, false, false, false, false, false, false, false, false, false, false, false, false, false, false] rfl rfl (by kernel_rfl) (by decide) (fun K hK => ?_)
    refine goes_ Tryd.func13 (by kernel_rfl) rfl #[.agg #[.int .i64 time, .slice A1 D.length c1, .slice A2 N.length c2]] (by rfl) rfl rfl (by simp only [List.map_toArray, List.map_cons, List.map_nil]; rfl) ?_
    with_reducible refine (cOwn36 HV.out.r.c).mono ?_
    rintro e w31 ⟨v37, rfl, hr, hq⟩
    refine ⟨_, rfl, ?_⟩
    have Hn := Lib.hid (HV.out.quiet hq)
    clear HV
    have HV := Hn
    clear Hn
    have HR37 : Hid (RepC w31 v37 time D N) := Lib.hid (by have q := hr.c; rw [HDD.out, HNN.out] at q; exact q)
    clear hr
    clear HJ hq
    have HJ := Lib.hid (H3.out _ HV.out.x)
    refine hK.out _ _ ⟨HJ.out.1, HJ.out.2.1, HJ.out.2.2⟩ (fun hHeld => ?_)
    clear hK K
    refine norm_ (a' := ?_) ?_ ?_
    rotate_left
    · show Act.put _ (some 37) _ = _
      simp only [Act.put, List.setIfInBounds_toArray, List.set_cons_zero, List.set_cons_succ, i64_w, i32_w]
      rfl
    refine one_ (i := 2) (N := some 38) #[true, true, true, true, false, false, false, false, false, false, false, false, false, false, false, false, false, false, false, false, false, false, false, false, false, false, false, false, false, false, false, false, false] rfl rfl (by kernel_rfl) (by decide) (fun K hK => ?_)
    refine goes_ Tryd.func17 (by kernel_rfl) rfl #[v37] (by rfl) rfl rfl (by simp only [List.map_toArray, List.map_cons, List.map_nil]; rfl) ?_
    with_reducible refine (cSound HR37.out).mono ?_
    rintro e w32 ⟨rfl, hq⟩
    refine ⟨_, rfl, ?_⟩
    have Hn := Lib.hid (HV.out.quiet hq)
    clear HV
    have HV := Hn
    clear Hn
    clear HJ hq HR37
    have HJ := Lib.hid (H3.out _ HV.out.x)
    refine hK.out _ _ ⟨HJ.out.1, HJ.out.2.1, HJ.out.2.2⟩ (fun hHeld => ?_)
    clear hK K
    refine norm_ (a' := ?_) ?_ ?_
    rotate_left
    · show Act.put _ (some 38) _ = _
      simp only [Act.put, List.setIfInBounds_toArray, List.set_cons_zero, List.set_cons_succ, i64_w, i32_w]
      rfl
    refine one_ (i := 4) (N := some 40) #[true, true, true, true, true, false, false, false, false, false, false, false, false, false, false, false, false, false, false, false, false, false, false, false, false, false, false, false, false, false, false, false, false] rfl rfl (by kernel_rfl) (by decide) (fun K hK => ?_)
    refine goes_ Tryd.func18 (by kernel_rfl) rfl #[.agg #[.int .i64 time, .slice A1 D.length c1, .slice A2 N.length c2]] (by rfl) rfl rfl (by simp only [List.map_toArray, List.map_cons, List.map_nil]; rfl) ?_
    with_reducible refine (crSound HV.out.r.c).mono ?_
    rintro e w33 ⟨rfl, hq⟩
    refine ⟨_, rfl, ?_⟩
    have Hn := Lib.hid (HV.out.quiet hq)
    clear HV
    have HV := Hn
    clear Hn
    clear HJ hq
    have HJ := Lib.hid (H3.out _ HV.out.x)
    refine hK.out _ _ ⟨HJ.out.1, HJ.out.2.1, HJ.out.2.2⟩ (fun hHeld => ?_)
    clear hK K
    refine norm_ (a' := ?_) ?_ ?_
    rotate_left
    · show Act.put _ (some 40) _ = _
      simp only [Act.put, List.setIfInBounds_toArray, List.set_cons_zero, List.set_cons_succ, i64_w, i32_w]
      rfl
    refine pure_ (i := 5) (N := some 41) (v := ?_) (a' := ?_) #[true, true, true, true, true, true, false, false, false, false, false, false, false, false, false, false, false, false, false, false, false, false, false, false, false, false, false, false, false, false, false, false, false] rfl rfl (by kernel_rfl) (fun _ _ _ h => h) (Or.inl ⟨by rfl, ?_⟩) ?_ ?_
    rotate_left
    · intro w'
      go_simp
      with_reducible rfl
    rotate_left
    · simp only [Act.put, List.setIfInBounds_toArray, List.set_cons_zero, List.set_cons_succ, i64_w, i32_w]
      rfl
    refine pure_ (i := 6) (N := some 42) (v := ?_) (a' := ?_) #[true, true, true, true, true, true, true, false, false, false, false, false, false, false, false, false, false, false, false, false, false, false, false, false, false, false, false, false, false, false, false, false, false] rfl rfl (by kernel_rfl) (fun _ _ _ h => h) (Or.inl ⟨by rfl, ?_⟩) ?_ ?_
    rotate_left
    · intro w'
      go_simp
      with_reducible rfl
    rotate_left
    · simp only [Act.put, List.setIfInBounds_toArray, List.set_cons_zero, List.set_cons_succ, i64_w, i32_w]
      rfl
    refine pure_ (i := 9) (N := some 45) (v := ?_) (a' := ?_) #[true, true, true, true, true, true, true, false, false, true, false, false, false, false, false, false, false, false, false, false, false, false, false, false, false, false, false, false, false, false, false, false, false] rfl rfl (by kernel_rfl) (fun _ _ _ h => h) (Or.inl ⟨by rfl, ?_⟩) ?_ ?_
    rotate_left
    · intro w'
      go_simp
      with_reducible rfl
    rotate_left
    · simp only [Act.put, List.setIfInBounds_toArray, List.set_cons_zero, List.set_cons_succ, i64_w, i32_w]
      rfl
    refine pure_ (i := 13) (N := some 49) (v := ?_) (a' := ?_) #[true, true, true, true, true, true, true, false, false, true, false, false, false, true, false, false, false, false, false, false, false, false, false, false, false, false, false, false, false, false, false, false, false] rfl rfl (by kernel_rfl) (fun _ _ _ h => h) (Or.inl ⟨by rfl, ?_⟩) ?_ ?_
    rotate_left
    · intro w'
      go_simp
      with_reducible rfl
    rotate_left
    · simp only [Act.put, List.setIfInBounds_toArray, List.set_cons_zero, List.set_cons_succ, i64_w, i32_w]
      rfl
    refine take_ (i := 7) (N := some 43) (v := ?_) (a' := ?_) #[true, true, true, true, true, true, true, true, false, true, false, false, false, true, false, false, false, false, false, false, false, false, false, false, false, false, false, false, false, false, false, false, false] rfl rfl (by kernel_rfl) (fun _ _ _ h => h) (Or.inl ⟨by rfl, ?_⟩) hHeld ?_ ?_
    rotate_left
    · rintro w' ⟨s0, s1, s2⟩
      go_simp
      with_reducible rfl
    rotate_left
    · simp only [Act.put, List.setIfInBounds_toArray, List.set_cons_zero, List.set_cons_succ, i64_w, i32_w]
      rfl
    refine take_ (i := 12) (N := some 48) (v := ?_) (a' := ?_) #[true, true, true, true, true, true, true, true, false, true, false, false, true, true, false, false, false, false, false, false, false, false, false, false, false, false, false, false, false, false, false, false, false] rfl rfl (by kernel_rfl) (fun _ _ _ h => h) (Or.inl ⟨by rfl, ?_⟩) hHeld ?_ ?_
    rotate_left
    · rintro w' ⟨s0, s1, s2⟩
      go_simp
      with_reducible rfl
    rotate_left
    · simp only [Act.put, List.setIfInBounds_toArray, List.set_cons_zero, List.set_cons_succ, i64_w, i32_w]
      rfl
    refine one_ (i := 8) (N := some 44) #[true, true, true, true, true, true, true, true, true, true, false, false, true, true, false, false, false, false, false, false, false, false, false, false, false, false, false, false, false, false, false, false, false] rfl rfl (by kernel_rfl) (by decide) (fun K hK => ?_)
    refine goes_ Tryd.func13 (by kernel_rfl) rfl #[.agg #[.int .i64 time, .slice A1 D.length c1, .slice A2 N.length c2]] (by rfl) rfl rfl (by simp only [List.map_toArray, List.map_cons, List.map_nil]; rfl) ?_
    with_reducible refine (cOwn36 HV.out.r.c).mono ?_
    rintro e w34 ⟨v44, rfl, hr, hq⟩
    refine ⟨_, rfl, ?_⟩
    have Hn := Lib.hid (HV.out.quiet hq)
    clear HV
    have HV := Hn
    clear Hn
    have HR44 : Hid (RepC w34 v44 time D N) := Lib.hid (by have q := hr.c; rw [HDD.out, HNN.out] at q; exact q)
    clear hr
    clear HJ hq
    have HJ := Lib.hid (H3.out _ HV.out.x)
    refine hK.out _ _ ⟨HJ.out.1, HJ.out.2.1, HJ.out.2.2⟩ (fun hHeld => ?_)
    clear hK K
    refine norm_ (a' := ?_) ?_ ?_
    rotate_left
    · show Act.put _ (some 44) _ = _
      simp only [Act.put, List.setIfInBounds_toArray, List.set_cons_zero, List.set_cons_succ, i64_w, i32_w]
      rfl
    refine one_ (i := 10) (N := some 46) #[true, true, true, true, true, true, true, true, true, true, true, false, true, true, false, false, false, false, false, false, false, false, false, false, false, false, false, false, false, false, false, false, false] rfl rfl (by kernel_rfl) (by decide) (fun K hK => ?_)
    refine goes_ Tryd.func14 (by kernel_rfl) rfl #[v3] (by rfl) rfl rfl (by simp only [List.map_toArray, List.map_cons, List.map_nil]; rfl) ?_
    with_reducible refine (cOwn26 HV.out.l).mono ?_
    rintro e w35 ⟨v46, rfl, hn, hq⟩
    refine ⟨_, rfl, ?_⟩
    have Hn := Lib.hid (HV.out.quiet hq)
    clear HV
    have HV := Hn
    clear Hn
    have Hn := Lib.hid (HR44.out.quiet hq)
    clear HR44
    have HR44 := Hn
    clear Hn
    have HN46 : Hid (NodesC w35 v46 L) := Lib.hid (by rw [HLL.out] at hn; exact hn)
    clear hn
    clear HJ hq
    have HJ := Lib.hid (H3.out _ HV.out.x)
    refine hK.out _ _ ⟨HJ.out.1, HJ.out.2.1, HJ.out.2.2⟩ (fun hHeld => ?_)
    clear hK K
    refine norm_ (a' := ?_) ?_ ?_
    rotate_left
    · show Act.put _ (some 46) _ = _
      simp only [Act.put, List.setIfInBounds_toArray, List.set_cons_zero, List.set_cons_succ, i64_w, i32_w]
      rfl
    refine one_ (i := 11) (N := some 47) #[true, true, true, true, true, true, true, true, true, true, true, true, true, true, false, false, false, false, false, false, false, false, false, false, false, false, false, false, false, false, false, false, false] rfl rfl (by kernel_rfl) (by decide) (fun K hK => ?_)
    refine goes_ Tryd.func19 (by kernel_rfl) rfl #[v44, v46] (by rfl) rfl rfl (by simp only [List.map_toArray, List.map_cons, List.map_nil]; rfl) ?_
    with_reducible refine (cMatch HR44.out HN46.out).mono ?_
    rintro e w36 ⟨rfl, hq⟩
    refine ⟨_, rfl, ?_⟩
    have Hn := Lib.hid (HV.out.quiet hq)
    clear HV
    have HV := Hn
    clear Hn
    clear HJ hq HR44 HN46
    have HJ := Lib.hid (H3.out _ HV.out.x)
    refine hK.out _ _ ⟨HJ.out.1, HJ.out.2.1, HJ.out.2.2⟩ (fun hHeld => ?_)
    clear hK K
    refine norm_ (a' := ?_) ?_ ?_
    rotate_left
    · show Act.put _ (some 47) _ = _
      simp only [Act.put, List.setIfInBounds_toArray, List.set_cons_zero, List.set_cons_succ, i64_w, i32_w]
      rfl
    refine one_ (i := 14) (N := some 50) #[true, true, true, true, true, true, true, true, true, true, true, true, true, true, true, false, false, false, false, false, false, false, false, false, false, false, false, false, false, false, false, false, false] rfl rfl (by kernel_rfl) (by decide) (fun K hK => ?_)
    refine goes_ Tryd.func20 (by kernel_rfl) rfl #[.agg #[.int .i64 time, .slice A1 D.length c1, .slice A2 N.length c2], v3] (by rfl) rfl rfl (by simp only [List.map_toArray, List.map_cons, List.map_nil]; rfl) ?_
    with_reducible refine (crMatch HV.out.r.c HV.out.l).mono ?_
    rintro e w37 ⟨rfl, hq⟩
    refine ⟨_, rfl, ?_⟩
    have Hn := Lib.hid (HV.out.quiet hq)
    clear HV
    have HV := Hn
    clear Hn
    clear HJ hq
    have HJ := Lib.hid (H3.out _ HV.out.x)
    refine hK.out _ _ ⟨HJ.out.1, HJ.out.2.1, HJ.out.2.2⟩ (fun hHeld => ?_)
    clear hK K
    refine norm_ (a' := ?_) ?_ ?_
    rotate_left
    · show Act.put _ (some 50) _ = _
      simp only [Act.put, List.setIfInBounds_toArray, List.set_cons_zero, List.set_cons_succ, i64_w, i32_w]
      rfl
    refine pure_ (i := 15) (N := some 51) (v := ?_) (a' := ?_) #[true, true, true, true, true, true, true, true, true, true, true, true, true, true, true, true, false, false, false, false, false, false, false, false, false, false, false, false, false, false, false, false, false] rfl rfl (by kernel_rfl) (fun _ _ _ h => h) (Or.inl ⟨by rfl, ?_⟩) ?_ ?_
    rotate_left
    · intro w'
      go_simp
      with_reducible rfl
    rotate_left
    · simp only [Act.put, List.setIfInBounds_toArray, List.set_cons_zero, List.set_cons_succ, i64_w, i32_w]
      rfl
    refine pure_ (i := 16) (N := some 52) (v := ?_) (a' := ?_) #[true, true, true, true, true, true, true, true, true, true, true, true, true, true, true, true, true, false, false, false, false, false, false, false, false, false, false, false, false, false, false, false, false] rfl rfl (by kernel_rfl) (fun _ _ _ h => h) (Or.inl ⟨by rfl, ?_⟩) ?_ ?_
    rotate_left
    · intro w'
      go_simp
      with_reducible rfl
    rotate_left
    · simp only [Act.put, List.setIfInBounds_toArray, List.set_cons_zero, List.set_cons_succ, i64_w, i32_w]
      rfl
    refine pure_ (i := 17) (N := some 53) (v := ?_) (a' := ?_) #[true, true, true, true, true, true, true, true, true, true, true, true, true, true, true, true, true, true, false, false, false, false, false, false, false, false, false, false, false, false, false, false, false] rfl rfl (by kernel_rfl) (fun _ _ _ h => h) (Or.inl ⟨by rfl, ?_⟩) ?_ ?_
    rotate_left
    · intro w'
      go_simp
      with_reducible rfl
    rotate_left
    · simp only [Act.put, List.setIfInBounds_toArray, List.set_cons_zero, List.set_cons_succ, i64_w, i32_w]
      rfl
    refine pure_ (i := 18) (N := some 54) (v := ?_) (a' := ?_) #[true, true, true, true, true, true, true, true, true, true, true, true, true, true, true, true, true, true, true, false, false, false, false, false, false, false, false, false, false, false, false, false, false] rfl rfl (by kernel_rfl) (fun _ _ _ h => h) (Or.inl ⟨by rfl, ?_⟩) ?_ ?_
    rotate_left
    · intro w'
      go_simp
      with_reducible rfl
    rotate_left
    · simp only [Act.put, List.setIfInBounds_toArray, List.set_cons_zero, List.set_cons_succ, i64_w, i32_w]
      rfl
    refine pure_ (i := 19) (N := some 55) (v := ?_) (a' := ?_) #[true, true, true, true, true, true, true, true, true, true, true, true, true, true, true, true, true, true, true, true, false, false, false, false, false, false, false, false, false, false, false, false, false] rfl rfl (by kernel_rfl) (fun _ _ _ h => h) (Or.inl ⟨by rfl, ?_⟩) ?_ ?_
    rotate_left
    · intro w'
      go_simp
      with_reducible rfl
    rotate_left
    · simp only [Act.put, List.setIfInBounds_toArray, List.set_cons_zero, List.set_cons_succ, i64_w, i32_w]
      rfl
    refine pure_ (i := 20) (N := some 56) (v := ?_) (a' := ?_) #[true, true, true, true, true, true, true, true, true, true, true, true, true, true, true, true, true, true, true, true, true, false, false, false, false, false, false, false, false, false, false, false, false] rfl rfl (by kernel_rfl) (fun _ _ _ h => h) (Or.inl ⟨by rfl, ?_⟩) ?_ ?_
    rotate_left
    · intro w'
      go_simp
      with_reducible rfl
    rotate_left
    · simp only [Act.put, List.setIfInBounds_toArray, List.set_cons_zero, List.set_cons_succ, i64_w, i32_w]
      rfl
    refine pure_ (i := 21) (N := some 57) (v := ?_) (a' := ?_) #[true, true, true, true, true, true, true, true, true, true, true, true, true, true, true, true, true, true, true, true, true, true, false, false, false, false, false, false, false, false, false, false, false] rfl rfl (by kernel_rfl) (fun _ _ _ h => h) (Or.inl ⟨by rfl, ?_⟩) ?_ ?_
    rotate_left
    · intro w'
      go_simp
      with_reducible rfl
    rotate_left
    · simp only [Act.put, List.setIfInBounds_toArray, List.set_cons_zero, List.set_cons_succ, i64_w, i32_w]
      rfl
    refine pure_ (i := 22) (N := some 58) (v := ?_) (a' := ?_) #[true, true, true, true, true, true, true, true, true, true, true, true, true, true, true, true, true, true, true, true, true, true, true, false, false, false, false, false, false, false, false, false, false] rfl rfl (by kernel_rfl) (fun _ _ _ h => h) (Or.inl ⟨by rfl, ?_⟩) ?_ ?_
    rotate_left
    · intro w'
      go_simp
      with_reducible rfl
    rotate_left
    · simp only [Act.put, List.setIfInBounds_toArray, List.set_cons_zero, List.set_cons_succ, i64_w, i32_w]
      rfl
    refine pure_ (i := 23) (N := some 59) (v := ?_) (a' := ?_) #[true, true, true, true, true, true, true, true, true, true, true, true, true, true, true, true, true, true, true, true, true, true, true, true, false, false, false, false, false, false, false, false, false] rfl rfl (by kernel_rfl) (fun _ _ _ h => h) (Or.inl ⟨by rfl, ?_⟩) ?_ ?_
    rotate_left
    · intro w'
      go_simp
      with_reducible rfl
    rotate_left
    · simp only [Act.put, List.setIfInBounds_toArray, List.set_cons_zero, List.set_cons_succ, i64_w, i32_w]
      rfl
    refine pure_ (i := 24) (N := some 60) (v := ?_) (a' := ?_) #[true, true, true, true, true, true, true, true, true, true, true, true, true, true, true, true, true, true, true, true, true, true, true, true, true, false, false, false, false, false, false, false, false] rfl rfl (by kernel_rfl) (fun _ _ _ h => h) (Or.inl ⟨by rfl, ?_⟩) ?_ ?_
    rotate_left
    · intro w'
      go_simp
      with_reducible rfl
    rotate_left
    · simp only [Act.put, List.setIfInBounds_toArray, List.set_cons_zero, List.set_cons_succ, i64_w, i32_w]
      rfl
    refine pure_ (i := 25) (N := some 61) (v := ?_) (a' := ?_) #[true, true, true, true, true, true, true, true, true, true, true, true, true, true, true, true, true, true, true, true, true, true, true, true, true, true, false, false, false, false, false, false, false] rfl rfl (by kernel_rfl) (fun _ _ _ h => h) (Or.inl ⟨by rfl, ?_⟩) ?_ ?_
    rotate_left
    · intro w'
      go_simp
      with_reducible rfl
    rotate_left
    · simp only [Act.put, List.setIfInBounds_toArray, List.set_cons_zero, List.set_cons_succ, i64_w, i32_w]
      rfl
    refine pure_ (i := 26) (N := some 62) (v := ?_) (a' := ?_) #[true, true, true, true, true, true, true, true, true, true, true, true, true, true, true, true, true, true, true, true, true, true, true, true, true, true, true, false, false, false, false, false, false] rfl rfl (by kernel_rfl) (fun _ _ _ h => h) (Or.inl ⟨by rfl, ?_⟩) ?_ ?_
    rotate_left
    · intro w'
      go_simp
      with_reducible rfl
    rotate_left
    · simp only [Act.put, List.setIfInBounds_toArray, List.set_cons_zero, List.set_cons_succ, i64_w, i32_w]
      rfl
    refine pure_ (i := 27) (N := some 63) (v := ?_) (a' := ?_) #[true, true, true, true, true, true, true, true, true, true, true, true, true, true, true, true, true, true, true, true, true, true, true, true, true, true, true, true, false, false, false, false, false] rfl rfl (by kernel_rfl) (fun _ _ _ h => h) (Or.inl ⟨by rfl, ?_⟩) ?_ ?_
    rotate_left
    · intro w'
      go_simp
      with_reducible rfl
    rotate_left
    · simp only [Act.put, List.setIfInBounds_toArray, List.set_cons_zero, List.set_cons_succ, i64_w, i32_w]
      rfl
    refine pure_ (i := 28) (N := some 64) (v := ?_) (a' := ?_) #[true, true, true, true, true, true, true, true, true, true, true, true, true, true, true, true, true, true, true, true, true, true, true, true, true, true, true, true, true, false, false, false, false] rfl rfl (by kernel_rfl) (fun _ _ _ h => h) (Or.inl ⟨by rfl, ?_⟩) ?_ ?_
    rotate_left
    · intro w'
      go_simp
      with_reducible rfl
    rotate_left
    · simp only [Act.put, List.setIfInBounds_toArray, List.set_cons_zero, List.set_cons_succ, i64_w, i32_w]
      rfl
    refine pure_ (i := 29) (N := some 65) (v := ?_) (a' := ?_) #[true, true, true, true, true, true, true, true, true, true, true, true, true, true, true, true, true, true, true, true, true, true, true, true, true, true, true, true, true, true, false, false, false] rfl rfl (by kernel_rfl) (fun _ _ _ h => h) (Or.inl ⟨by rfl, ?_⟩) ?_ ?_
    rotate_left
    · intro w'
      go_simp
      with_reducible rfl
    rotate_left
    · simp only [Act.put, List.setIfInBounds_toArray, List.set_cons_zero, List.set_cons_succ, i64_w, i32_w]
      rfl
    refine pure_ (i := 30) (N := some 66) (v := ?_) (a' := ?_) #[true, true, true, true, true, true, true, true, true, true, true, true, true, true, true, true, true, true, true, true, true, true, true, true, true, true, true, true, true, true, true, false, false] rfl rfl (by kernel_rfl) (fun _ _ _ h => h) (Or.inl ⟨by rfl, ?_⟩) ?_ ?_
    rotate_left
    · intro w'
      go_simp
      with_reducible rfl
    rotate_left
    · simp only [Act.put, List.setIfInBounds_toArray, List.set_cons_zero, List.set_cons_succ, i64_w, i32_w]
      rfl
    refine pure_ (i := 31) (N := some 67) (v := ?_) (a' := ?_) #[true, true, true, true, true, true, true, true, true, true, true, true, true, true, true, true, true, true, true, true, true, true, true, true, true, true, true, true, true, true, true, true, false] rfl rfl (by kernel_rfl) (fun _ _ _ h => h) (Or.inl ⟨by rfl, ?_⟩) ?_ ?_
    rotate_left
    · intro w'
      go_simp
      with_reducible rfl
    rotate_left
    · simp only [Act.put, List.setIfInBounds_toArray, List.set_cons_zero, List.set_cons_succ, i64_w, i32_w]
      rfl
    refine pure_ (i := 32) (N := some 68) (v := ?_) (a' := ?_) #[true, true, true, true, true, true, true, true, true, true, true, true, true, true, true, true, true, true, true, true, true, true, true, true, true, true, true, true, true, true, true, true, true] rfl rfl (by kernel_rfl) (fun _ _ _ h => h) (Or.inl ⟨by rfl, ?_⟩) ?_ ?_
    rotate_left
    · intro w'
      go_simp
      with_reducible rfl
    rotate_left
    · simp only [Act.put, List.setIfInBounds_toArray, List.set_cons_zero, List.set_cons_succ, i64_w, i32_w]
      rfl
    refine done_ (by kernel_rfl) ?_
    go_wp2_with fail
    have Hn := Lib.hid (HV.out.quiet (Fr.drew (Fr.refl _ w37)))
    clear HV
    have HV := Hn
    clear Hn
    clear HJ
    have HJ := Lib.hid (H3.out _ HV.out.x)
    refine start_ (n := 24) (S := fun w' => w'.cell? ⟨w.heap.size, 0, none⟩ = some (.int .i64 time) ∧ w'.cell? ⟨w.heap.size, 1, none⟩ = some (.slice A1 D.length c1) ∧ w'.cell? ⟨w.heap.size, 2, none⟩ = some (.slice A2 N.length c2)) (ds := []) #[false, false, false, false, false, false, false, false, false, false, false, false, false, false, false, false, false, false, false, false, false, false, false, false] (by kernel_rfl) rfl rfl ⟨HJ.out.1, HJ.out.2.1, HJ.out.2.2⟩ (fun hHeld => ?_)
    generalize w37.drew = w40 at HV HJ hHeld ⊢
    refine pure_ (i := 2) (N := some 71) (v := ?_) (a' := ?_) #[false, false, true, false, false, false, false, false, false, false, false, false, false, false, false, false, false, false, false, false, false, false, false, false] rfl rfl (by kernel_rfl) (fun _ _ _ h => h) (Or.inl ⟨by rfl, ?_⟩) ?_ ?_
    rotate_left
    · intro w'
      go_simp
      with_reducible rfl
    rotate_left
    · simp only [Act.put, List.setIfInBounds_toArray, List.set_cons_zero, List.set_cons_succ, i64_w, i32_w]
      rfl
    refine pure_ (i := 5) (N := some 74) (v := ?_) (a' := ?_) #[false, false, true, false, false, true, false, false, false, false, false, false, false, false, false, false, false, false, false, false, false, false, false, false] rfl rfl (by kernel_rfl) (fun _ _ _ h => h) (Or.inl ⟨by rfl, ?_⟩) ?_ ?_
    rotate_left
    · intro w'
      go_simp
      with_reducible rfl
    rotate_left
    · simp only [Act.put, List.setIfInBounds_toArray, List.set_cons_zero, List.set_cons_succ, i64_w, i32_w]
      rfl
    refine take_ (i := 0) (N := some 69) (v := ?_) (a' := ?_) #[true, false, true, false, false, true, false, false, false, false, false, false, false, false, false, false, false, false, false, false, false, false, false, false] rfl rfl (by kernel_rfl) (fun _ _ _ h => h) (Or.inl ⟨by rfl, ?_⟩) hHeld ?_ ?_
    rotate_left
    · rintro w' ⟨s0, s1, s2⟩
      go_simp
      with_reducible rfl
    rotate_left
    · simp only [Act.put, List.setIfInBounds_toArray, List.set_cons_zero, List.set_cons_succ, i64_w, i32_w]
      rfl
    refine take_ (i := 4) (N := some 73) (v := ?_) (a' := ?_) #[true, false, true, false, true, true, false, false, false, false, false, false, false, false, false, false, false, false, false, false, false, false, false, false] rfl rfl (by kernel_rfl) (fun _ _ _ h => h) (Or.inl ⟨by rfl, ?_⟩) hHeld ?_ ?_
    rotate_left
    · rintro w' ⟨s0, s1, s2⟩
      go_simp
      with_reducible rfl
    rotate_left
    · simp only [Act.put, List.setIfInBounds_toArray, List.set_cons_zero, List.set_cons_succ, i64_w, i32_w]
      rfl
    refine one_ (i := 1) (N := some 70) #[true, true, true, false, true, true, false, false, false, false, false, false, false, false, false, false, false, false, false, false, false, false, false, false] rfl rfl (by kernel_rfl) (by decide) (fun K hK => ?_)
    refine goes_ Tryd.func13 (by kernel_rfl) rfl #[.agg #[.int .i64 time, .slice A1 D.length c1, .slice A2 N.length c2]] (by rfl) rfl rfl (by simp only [List.map_toArray, List.map_cons, List.map_nil]; rfl) ?_
    with_reducible refine (cOwn36 HV.out.r.c).mono ?_
    rintro e w41 ⟨v70, rfl, hr, hq⟩
    refine ⟨_, rfl, ?_⟩
    have Hn := Lib.hid (HV.out.quiet hq)
    clear HV
    have HV := Hn
    clear Hn
    have HR70 : Hid (RepC w41 v70 time D N) := Lib.hid (by have q := hr.c; rw [HDD.out, HNN.out] at q; exact q)
    clear hr
    clear HJ hq
    have HJ := Lib.hid (H3.out _ HV.out.x)
    refine hK.out _ _ ⟨HJ.out.1, HJ.out.2.1, HJ.out.2.2⟩ (fun hHeld => ?_)
    clear hK K
    refine norm_ (a' := ?_) ?_ ?_
    rotate_left
    · show Act.put _ (some 70) _ = _
      simp only [Act.put, List.setIfInBounds_toArray, List.set_cons_zero, List.set_cons_succ, i64_w, i32_w]
      rfl
    refine one_ (i := 3) (N := some 72) #[true, true, true, true, true, true, false, false, false, false, false, false, false, false, false, false, false, false, false, false, false, false, false, false] rfl rfl (by kernel_rfl) (by decide) (fun K hK => ?_)
    refine goes_ Tryd.func22 (by kernel_rfl) rfl #[v70, .int .i64 t] (by rfl) rfl rfl (by simp only [List.map_toArray, List.map_cons, List.map_nil]; rfl) ?_
    with_reducible refine (cCore HV.out.t HR70.out t).mono ?_
    rintro e w42 ⟨v72, rfl, hi, hq⟩
    refine ⟨_, rfl, ?_⟩
    have Hn := Lib.hid (HV.out.quiet hq)
    clear HV
    have HV := Hn
    clear Hn
    have HI72 := Lib.hid hi
    clear hi
    clear HJ hq HR70
    have HJ := Lib.hid (H3.out _ HV.out.x)
    refine hK.out _ _ ⟨HJ.out.1, HJ.out.2.1, HJ.out.2.2⟩ (fun hHeld => ?_)
    clear hK K
    refine norm_ (a' := ?_) ?_ ?_
    rotate_left
    · show Act.put _ (some 72) _ = _
      simp only [Act.put, List.setIfInBounds_toArray, List.set_cons_zero, List.set_cons_succ, i64_w, i32_w]
      rfl
    refine one_ (i := 6) (N := some 75) #[true, true, true, true, true, true, true, false, false, false, false, false, false, false, false, false, false, false, false, false, false, false, false, false] rfl rfl (by kernel_rfl) (by decide) (fun K hK => ?_)
    refine goes_ Tryd.func23 (by kernel_rfl) rfl #[.agg #[.int .i64 time, .slice A1 D.length c1, .slice A2 N.length c2], .int .i64 t] (by rfl) rfl rfl (by simp only [List.map_toArray, List.map_cons, List.map_nil]; rfl) ?_
    with_reducible refine (crCore HV.out.r.c t).mono ?_
    rintro e w43 ⟨v75, rfl, hi, hq⟩
    refine ⟨_, rfl, ?_⟩
    have Hn := Lib.hid (HV.out.quiet hq)
    clear HV
    have HV := Hn
    clear Hn
    have Hn := Lib.hid (HI72.out.quiet hq)
    clear HI72
    have HI72 := Hn
    clear Hn
    have HI75 := Lib.hid hi
    clear hi
    clear HJ hq
    have HJ := Lib.hid (H3.out _ HV.out.x)
    refine hK.out _ _ ⟨HJ.out.1, HJ.out.2.1, HJ.out.2.2⟩ (fun hHeld => ?_)
    clear hK K
    refine norm_ (a' := ?_) ?_ ?_
    rotate_left
    · show Act.put _ (some 75) _ = _
      simp only [Act.put, List.setIfInBounds_toArray, List.set_cons_zero, List.set_cons_succ, i64_w, i32_w]
      rfl
    refine one_ (i := 7) (N := some 76) #[true, true, true, true, true, true, true, true, false, false, false, false, false, false, false, false, false, false, false, false, false, false, false, false] rfl rfl (by kernel_rfl) (by decide) (fun K hK => ?_)
    refine goes_ Tryd.func21 (by kernel_rfl) rfl #[v72, v75] (by rfl) rfl rfl (by simp only [List.map_toArray, List.map_cons, List.map_nil]; rfl) ?_
    with_reducible refine (cIntsSame HI72.out HI75.out).mono ?_
    rintro e w44 ⟨rfl, hq⟩
    refine ⟨_, rfl, ?_⟩
    have Hn := Lib.hid (HV.out.quiet hq)
    clear HV
    have HV := Hn
    clear Hn
    clear HJ hq HI72 HI75
    have HJ := Lib.hid (H3.out _ HV.out.x)
    refine hK.out _ _ ⟨HJ.out.1, HJ.out.2.1, HJ.out.2.2⟩ (fun hHeld => ?_)
    clear hK K
    refine norm_ (a' := ?_) ?_ ?_
    rotate_left
    · show Act.put _ (some 76) _ = _
      simp only [Act.put, List.setIfInBounds_toArray, List.set_cons_zero, List.set_cons_succ, i64_w, i32_w]
      rfl
    refine pure_ (i := 8) (N := some 77) (v := ?_) (a' := ?_) #[true, true, true, true, true, true, true, true, true, false, false, false, false, false, false, false, false, false, false, false, false, false, false, false] rfl rfl (by kernel_rfl) (fun _ _ _ h => h) (Or.inl ⟨by rfl, ?_⟩) ?_ ?_
    rotate_left
    · intro w'
      go_simp
      with_reducible rfl
    rotate_left
    · simp only [Act.put, List.setIfInBounds_toArray, List.set_cons_zero, List.set_cons_succ, i64_w, i32_w]
      rfl
    refine pure_ (i := 12) (N := some 81) (v := ?_) (a' := ?_) #[true, true, true, true, true, true, true, true, true, false, false, false, true, false, false, false, false, false, false, false, false, false, false, false] rfl rfl (by kernel_rfl) (fun _ _ _ h => h) (Or.inl ⟨by rfl, ?_⟩) ?_ ?_
    rotate_left
    · intro w'
      go_simp
      with_reducible rfl
    rotate_left
    · simp only [Act.put, List.setIfInBounds_toArray, List.set_cons_zero, List.set_cons_succ, i64_w, i32_w]
      rfl
    refine pure_ (i := 16) (N := some 85) (v := ?_) (a' := ?_) #[true, true, true, true, true, true, true, true, true, false, false, false, true, false, false, false, true, false, false, false, false, false, false, false] rfl rfl (by kernel_rfl) (fun _ _ _ h => h) (Or.inl ⟨by rfl, ?_⟩) ?_ ?_
    rotate_left
    · intro w'
      go_simp
      with_reducible rfl
    rotate_left
    · simp only [Act.put, List.setIfInBounds_toArray, List.set_cons_zero, List.set_cons_succ, i64_w, i32_w]
      rfl
    refine take_ (i := 9) (N := some 78) (v := ?_) (a' := ?_) #[true, true, true, true, true, true, true, true, true, true, false, false, true, false, false, false, true, false, false, false, false, false, false, false] rfl rfl (by kernel_rfl) (fun _ _ _ h => h) (Or.inl ⟨by rfl, ?_⟩) hHeld ?_ ?_
    rotate_left
    · rintro w' ⟨s0, s1, s2⟩
      go_simp
      with_reducible rfl
    rotate_left
    · simp only [Act.put, List.setIfInBounds_toArray, List.set_cons_zero, List.set_cons_succ, i64_w, i32_w]
      rfl
    refine take_ (i := 15) (N := some 84) (v := ?_) (a' := ?_) #[true, true, true, true, true, true, true, true, true, true, false, false, true, false, false, true, true, false, false, false, false, false, false, false] rfl rfl (by kernel_rfl) (fun _ _ _ h => h) (Or.inl ⟨by rfl, ?_⟩) hHeld ?_ ?_
    rotate_left
    · rintro w' ⟨s0, s1, s2⟩
      go_simp
      with_reducible rfl
    rotate_left
    · simp only [Act.put, List.setIfInBounds_toArray, List.set_cons_zero, List.set_cons_succ, i64_w, i32_w]
      rfl
    refine join_ (σ := Value × Value) 9 #[true, true, true, true, true, true, true, true, true, true, true, true, true, false, false, true, true, false, false, false, false, false, false, false] (fun s => [(79, s.1), (80, s.2)]) (fun s w' => WtFork w #[.int .i64 time, .slice A1 D.length c1, .slice A2 N.length c2] B time D N v3 L vs S s.1 s.2 w') ?_ ?_
    rotate_left
    · intro hCont
      refine two_ (i := 10) (j := 11) (Ni := some 79) (Nj := some 80) #[true, true, true, true, true, true, true, true, true, true, true, false, true, false, false, true, true, false, false, false, false, false, false, false] #[true, true, true, true, true, true, true, true, true, true, false, true, true, false, false, true, true, false, false, false, false, false, false, false] rfl rfl rfl rfl (by kernel_rfl) (by decide) (by decide) (fun K hK => ?_) (fun K hK => ?_)
      · skip
        refine goes_ Tryd.func13 (by kernel_rfl) rfl #[.agg #[.int .i64 time, .slice A1 D.length c1, .slice A2 N.length c2]] (by rfl) rfl rfl (by simp only [List.map_toArray, List.map_cons, List.map_nil]; rfl) ?_
        with_reducible refine (cOwn36 HV.out.r.c).mono ?_
        rintro e w45 ⟨v79, rfl, hr, hq⟩
        refine ⟨_, rfl, ?_⟩
        have Hn := Lib.hid (HV.out.quiet hq)
        clear HV
        have HV := Hn
        clear Hn
        have HR79 : Hid (RepC w45 v79 time D N) := Lib.hid (by have q := hr.c; rw [HDD.out, HNN.out] at q; exact q)
        clear hr
        clear HJ hq
        have HJ := Lib.hid (H3.out _ HV.out.x)
        refine hK.out _ _ ⟨HJ.out.1, HJ.out.2.1, HJ.out.2.2⟩ (fun hHeld => ?_)
        clear hK K
        refine norm_ (a' := ?_) ?_ ?_
        rotate_left
        · show Act.put _ (some 79) _ = _
          simp only [Act.put, List.setIfInBounds_toArray, List.set_cons_zero, List.set_cons_succ, i64_w, i32_w]
          rfl
        refine one_ (i := 11) (N := some 80) #[true, true, true, true, true, true, true, true, true, true, true, true, true, false, false, true, true, false, false, false, false, false, false, false] rfl rfl (by kernel_rfl) (by decide) (fun K hK => ?_)
        refine value_ (w1 := ?_) (v := ?_) (by rfl) rfl ?_ ?_
        rotate_left 2
        · go_simp
          constructor
          · rfl
          · rfl
        have Hn := Lib.hid (HV.out.quiet (Fr.alloc (Fr.refl _ w45) (.cells #[] 3)))
        clear HV
        have HV := Hn
        clear Hn
        have Hn := Lib.hid (HR79.out.quiet (Fr.alloc (Fr.refl _ w45) (.cells #[] 3)))
        clear HR79
        have HR79 := Hn
        clear Hn
        clear HJ
        have HJ := Lib.hid (H3.out _ HV.out.x)
        refine hK.out _ _ ⟨HJ.out.1, HJ.out.2.1, HJ.out.2.2⟩ (fun hHeld => ?_)
        clear hK K
        refine norm_ (a' := ?_) ?_ ?_
        rotate_left
        · show Act.put _ (some 80) _ = _
          simp only [Act.put, List.setIfInBounds_toArray, List.set_cons_zero, List.set_cons_succ, i64_w, i32_w]
          rfl
        exact norm_ (by simp only [putAll, Act.put, List.setIfInBounds_toArray, List.set_cons_zero, List.set_cons_succ]) (hCont (v79, .slice (some ⟨w45.heap.size, 0, none⟩) 0 0) _ ⟨_, rfl, HR79.out, HV.out⟩)
      · skip
        refine value_ (w1 := ?_) (v := ?_) (by rfl) rfl ?_ ?_
        rotate_left 2
        · go_simp
          constructor
          · rfl
          · rfl
        have Hn := Lib.hid (HV.out.quiet (Fr.alloc (Fr.refl _ w44) (.cells #[] 3)))
        clear HV
        have HV := Hn
        clear Hn
        clear HJ
        have HJ := Lib.hid (H3.out _ HV.out.x)
        refine hK.out _ _ ⟨HJ.out.1, HJ.out.2.1, HJ.out.2.2⟩ (fun hHeld => ?_)
        clear hK K
        refine norm_ (a' := ?_) ?_ ?_
        rotate_left
        · show Act.put _ (some 80) _ = _
          simp only [Act.put, List.setIfInBounds_toArray, List.set_cons_zero, List.set_cons_succ, i64_w, i32_w]
          rfl
        refine one_ (i := 10) (N := some 79) #[true, true, true, true, true, true, true, true, true, true, true, true, true, false, false, true, true, false, false, false, false, false, false, false] rfl rfl (by kernel_rfl) (by decide) (fun K hK => ?_)
        refine goes_ Tryd.func13 (by kernel_rfl) rfl #[.agg #[.int .i64 time, .slice A1 D.length c1, .slice A2 N.length c2]] (by rfl) rfl rfl (by simp only [List.map_toArray, List.map_cons, List.map_nil]; rfl) ?_
        with_reducible refine (cOwn36 HV.out.r.c).mono ?_
        rintro e w45 ⟨v79, rfl, hr, hq⟩
        refine ⟨_, rfl, ?_⟩
        have Hn := Lib.hid (HV.out.quiet hq)
        clear HV
        have HV := Hn
        clear Hn
        have HR79 : Hid (RepC w45 v79 time D N) := Lib.hid (by have q := hr.c; rw [HDD.out, HNN.out] at q; exact q)
        clear hr
        clear HJ hq
        have HJ := Lib.hid (H3.out _ HV.out.x)
        refine hK.out _ _ ⟨HJ.out.1, HJ.out.2.1, HJ.out.2.2⟩ (fun hHeld => ?_)
        clear hK K
        refine norm_ (a' := ?_) ?_ ?_
        rotate_left
        · show Act.put _ (some 79) _ = _
          simp only [Act.put, List.setIfInBounds_toArray, List.set_cons_zero, List.set_cons_succ, i64_w, i32_w]
          rfl
        exact norm_ (by simp only [putAll, Act.put, List.setIfInBounds_toArray, List.set_cons_zero, List.set_cons_succ]) (hCont (v79, .slice (some ⟨w44.heap.size, 0, none⟩) 0 0) _ ⟨_, rfl, HR79.out, HV.out⟩)
    rintro ⟨v79, v80⟩ w46 ⟨b80, e1, hr, hv⟩
    dsimp only at e1 hr
    subst e1
    clear HV HJ
    have HV := Lib.hid hv
    have HR79 := Lib.hid hr
    clear hv hr
    have HJ := Lib.hid (H3.out _ HV.out.x)
    have hHeld := HJ.out
    refine norm_ (a' := ?_) ?_ ?_
    rotate_left
    · simp only [putAll, Act.put, List.setIfInBounds_toArray, List.set_cons_zero, List.set_cons_succ]
      rfl
    refine one_ (i := 13) (N := some 82) #[true, true, true, true, true, true, true, true, true, true, true, true, true, true, false, true, true, false, false, false, false, false, false, false] rfl rfl (by kernel_rfl) (by decide) (fun K hK => ?_)
    refine rAppE (by rfl) (.tmp 80) (.tmp 81) 22 3 rfl Tryd.underlying22 infoInt rfl b80 _ S rfl rfl HV.out.s (by omega) ?_
    intro v82 w47 hi hq
    have Hn := Lib.hid (HV.out.quiet hq)
    clear HV
    have HV := Hn
    clear Hn
    have Hn := Lib.hid (HR79.out.quiet hq)
    clear HR79
    have HR79 := Hn
    clear Hn
    have HI82 := Lib.hid hi
    clear HJ hq hi
    have HJ := Lib.hid (H3.out _ HV.out.x)
    refine hK.out _ _ ⟨HJ.out.1, HJ.out.2.1, HJ.out.2.2⟩ (fun hHeld => ?_)
    clear hK K
    refine norm_ (a' := ?_) ?_ ?_
    rotate_left
    · show Act.put _ (some 82) _ = _
      simp only [Act.put, List.setIfInBounds_toArray, List.set_cons_zero, List.set_cons_succ, i64_w, i32_w]
      rfl
    refine one_ (i := 14) (N := some 83) #[true, true, true, true, true, true, true, true, true, true, true, true, true, true, true, true, true, false, false, false, false, false, false, false] rfl rfl (by kernel_rfl) (by decide) (fun K hK => ?_)
    refine goes_ Tryd.func25 (by kernel_rfl) rfl #[v79, v82] (by rfl) rfl rfl (by simp only [List.map_toArray, List.map_cons, List.map_nil]; rfl) ?_
    with_reducible refine (cPart HR79.out HI82.out HSN.out).mono ?_
    rintro e w48 ⟨v83, rfl, hr, hq⟩
    refine ⟨_, rfl, ?_⟩
    have Hn := Lib.hid (HV.out.quiet hq)
    clear HV
    have HV := Hn
    clear Hn
    have HP83 := Lib.hid hr
    clear hr
    clear HJ hq HR79 HI82
    have HJ := Lib.hid (H3.out _ HV.out.x)
    refine hK.out _ _ ⟨HJ.out.1, HJ.out.2.1, HJ.out.2.2⟩ (fun hHeld => ?_)
    clear hK K
    refine norm_ (a' := ?_) ?_ ?_
    rotate_left
    · show Act.put _ (some 83) _ = _
      simp only [Act.put, List.setIfInBounds_toArray, List.set_cons_zero, List.set_cons_succ, i64_w, i32_w]
      rfl
    refine one_ (i := 17) (N := some 86) #[true, true, true, true, true, true, true, true, true, true, true, true, true, true, true, true, true, true, false, false, false, false, false, false] rfl rfl (by kernel_rfl) (by decide) (fun K hK => ?_)
    refine goes_ Tryd.func26 (by kernel_rfl) rfl #[.agg #[.int .i64 time, .slice A1 D.length c1, .slice A2 N.length c2], vs] (by rfl) rfl rfl (by simp only [List.map_toArray, List.map_cons, List.map_nil]; rfl) ?_
    with_reducible refine (crPart HV.out.b HV.out.r HV.out.s HSN1.out).mono ?_
    rintro e w49 ⟨v86, rfl, hr, hq⟩
    refine ⟨_, rfl, ?_⟩
    have Hn := Lib.hid (HV.out.quiet hq)
    clear HV
    have HV := Hn
    clear Hn
    have Hn := Lib.hid (HP83.out.quiet hq)
    clear HP83
    have HP83 := Hn
    clear Hn
    have HP86 := Lib.hid hr
    clear hr
    clear HJ hq
    have HJ := Lib.hid (H3.out _ HV.out.x)
    refine hK.out _ _ ⟨HJ.out.1, HJ.out.2.1, HJ.out.2.2⟩ (fun hHeld => ?_)
    clear hK K
    refine norm_ (a' := ?_) ?_ ?_
    rotate_left
    · show Act.put _ (some 86) _ = _
      simp only [Act.put, List.setIfInBounds_toArray, List.set_cons_zero, List.set_cons_succ, i64_w, i32_w]
      rfl
    refine one_ (i := 18) (N := some 87) #[true, true, true, true, true, true, true, true, true, true, true, true, true, true, true, true, true, true, true, false, false, false, false, false] rfl rfl (by kernel_rfl) (by decide) (fun K hK => ?_)
    refine goes_ Tryd.func24 (by kernel_rfl) rfl #[v83, v86] (by rfl) rfl rfl (by simp only [List.map_toArray, List.map_cons, List.map_nil]; rfl) ?_
    with_reducible refine (cSameSame HP83.out HP86.out).mono ?_
    rintro e w50 ⟨rfl, hq⟩
    refine ⟨_, rfl, ?_⟩
    have Hn := Lib.hid (HV.out.quiet hq)
    clear HV
    have HV := Hn
    clear Hn
    clear HJ hq HP83 HP86
    have HJ := Lib.hid (H3.out _ HV.out.x)
    refine hK.out _ _ ⟨HJ.out.1, HJ.out.2.1, HJ.out.2.2⟩ (fun hHeld => ?_)
    clear hK K
    refine norm_ (a' := ?_) ?_ ?_
    rotate_left
    · show Act.put _ (some 87) _ = _
      simp only [Act.put, List.setIfInBounds_toArray, List.set_cons_zero, List.set_cons_succ, i64_w, i32_w]
      rfl
    refine pure_ (i := 19) (N := some 88) (v := ?_) (a' := ?_) #[true, true, true, true, true, true, true, true, true, true, true, true, true, true, true, true, true, true, true, true, false, false, false, false] rfl rfl (by kernel_rfl) (fun _ _ _ h => h) (Or.inl ⟨by rfl, ?_⟩) ?_ ?_
    rotate_left
    · intro w'
      go_simp
      with_reducible rfl
    rotate_left
    · simp only [Act.put, List.setIfInBounds_toArray, List.set_cons_zero, List.set_cons_succ, i64_w, i32_w]
      rfl
    refine pure_ (i := 20) (N := some 89) (v := ?_) (a' := ?_) #[true, true, true, true, true, true, true, true, true, true, true, true, true, true, true, true, true, true, true, true, true, false, false, false] rfl rfl (by kernel_rfl) (fun _ _ _ h => h) (Or.inl ⟨by rfl, ?_⟩) ?_ ?_
    rotate_left
    · intro w'
      go_simp
      with_reducible rfl
    rotate_left
    · simp only [Act.put, List.setIfInBounds_toArray, List.set_cons_zero, List.set_cons_succ, i64_w, i32_w]
      rfl
    refine one_ (i := 21) (N := some 90) #[true, true, true, true, true, true, true, true, true, true, true, true, true, true, true, true, true, true, true, true, true, true, false, false] rfl rfl (by kernel_rfl) (by decide) (fun K hK => ?_)
    refine goes_ Tryd.func27 (by kernel_rfl) rfl #[] (by rfl) rfl rfl (by simp only [List.map_toArray, List.map_cons, List.map_nil]) ?_
    with_reducible refine (cLives _ HV.out.t).mono ?_
    rintro e w51 ⟨rfl, hq⟩
    refine ⟨_, rfl, ?_⟩
    have Hn := Lib.hid (HV.out.quiet hq)
    clear HV
    have HV := Hn
    clear Hn
    clear HJ hq
    have HJ := Lib.hid (H3.out _ HV.out.x)
    refine hK.out _ _ ⟨HJ.out.1, HJ.out.2.1, HJ.out.2.2⟩ (fun hHeld => ?_)
    clear hK K
    refine norm_ (a' := ?_) ?_ ?_
    rotate_left
    · show Act.put _ (some 90) _ = _
      simp only [Act.put, List.setIfInBounds_toArray, List.set_cons_zero, List.set_cons_succ, i64_w, i32_w]
      rfl
    refine pure_ (i := 22) (N := some 91) (v := ?_) (a' := ?_) #[true, true, true, true, true, true, true, true, true, true, true, true, true, true, true, true, true, true, true, true, true, true, true, false] rfl rfl (by kernel_rfl) (fun _ _ _ h => h) (Or.inl ⟨by rfl, ?_⟩) ?_ ?_
    rotate_left
    · intro w'
      go_simp
      with_reducible rfl
    rotate_left
    · simp only [Act.put, List.setIfInBounds_toArray, List.set_cons_zero, List.set_cons_succ, i64_w, i32_w]
      rfl
    refine pure_ (i := 23) (N := some 6) (v := ?_) (a' := ?_) #[true, true, true, true, true, true, true, true, true, true, true, true, true, true, true, true, true, true, true, true, true, true, true, true] rfl rfl (by kernel_rfl) (fun _ _ _ h => h) (Or.inl ⟨by rfl, ?_⟩) ?_ ?_
    rotate_left
    · intro w'
      go_simp
      with_reducible rfl
    rotate_left
    · simp only [Act.put, List.setIfInBounds_toArray, List.set_cons_zero, List.set_cons_succ, i64_w, i32_w]
      rfl
    refine done_ (by kernel_rfl) ?_
    go_wp2
    go_ret
    exact ⟨rfl, HV.out.q⟩
theorem witnessTellsW (W : World) (hT : Tb W) (cs0 : Array Value) (a0 : Int × List Int × List (Bool × List (List (Int × List (Int × Int))))) (e0 : shRep.rd W W.heap.size a0 cs0.toList) (a1 : Int) (r1 : -9223372036854775808 ≤ a1 ∧ a1 ≤ 9223372036854775807)
    (cs2 : Array Value) (a2 : List (Bool × List (List (Int × List (Int × Int)))) × List Int) (e2 : (shP (shL shNode) (shL shInt)).rd W W.heap.size a2 cs2.toList) :
    Calls Tryd.prog 3 #[.agg cs0, .int .i64 a1, .agg cs2] W fun e w' => e = .returned (.bool true) ∧ Quiet W w' := by
  obtain ⟨A1, c1, A2, c2, e, g1, g2, g3, g4⟩ := rep_of e0
  obtain ⟨d1, d2, ed, _, h1, h2⟩ := e2
  obtain ⟨v, rfl⟩ := one_of_sh h1
  obtain ⟨u, rfl⟩ := one_of_sh h2
  obtain ⟨As, k, rfl, s1, s2⟩ := ints_of h2
  have ecs : cs2 = #[v, .slice As a2.2.length k] := by apply Array.ext'; rw [ed]; rfl
  rw [e, ecs]
  exact tellsCore W hT _ A1 c1 _ A2 c2 _ g1 g2 g3 g4 a1 v _ (nodes_of h1) As _ k s1 s2
end Go.Proofs.YtadepdeckapgcaaDoor
end
