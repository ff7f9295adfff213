/- The walks of PoolSums, PoolApart and PoolNil. -/
import Derived.Test.YtcmfbkajafbjnaaPw
import Derived.Deep.QuietTactic
import Derived.BigQuiet
namespace Go.Proofs.Ytcmfbkajafbjnaa
open Go.RowKit Go.Proofs.YtcmfbkajafbjnaaW.PrintWords Go.Proofs.YtcmfbkajafbjnaaW.PrintLast Go.Proofs.YtcmfbkajafbjnaaW.PrintMore PPoolPlays
set_option linter.unusedSimpArgs false
set_option linter.unusedVariables false

theorem R20.cells {w : World} {base : Nat} {v : Value} {l : List Sh20} (h : R20 w base v l) :
    (l = [] ∧ ∃ a c, v = .slice a 0 c) ∨ ∃ g cap, v = .slice (some ⟨g, 0, none⟩) l.length cap ∧ ∀ i (hi : i < l.length), w.cell? ⟨g, i * 2, none⟩ = some (.int .i64 l[i].f0) ∧ w.cell? ⟨g, i * 2 + 1, none⟩ = some (.int .i64 l[i].f1) := by
  obtain ⟨A, c, rfl, hl, hC⟩ := h.reads
  obtain ⟨inner, ho⟩ := Kd.R_own h
  rcases ho.2 with ⟨e, hn⟩ | ⟨g, cap, cur, e, _⟩
  · left
    have : l = [] := List.eq_nil_of_length_eq_zero hn
    subst this
    exact ⟨rfl, A, c, rfl⟩
  · right
    simp only [Value.slice.injEq, true_and] at e
    obtain ⟨rfl, rfl⟩ := e
    refine ⟨g, c, rfl, fun i hi => ?_⟩
    obtain ⟨ad, e, h0, h1⟩ := at_T31 hC (i : Int) (by omega) (by omega)
    simp only [Option.some.injEq] at e
    subst e
    rw [rd_lt l i hi] at h0 h1
    have ea : (⟨g, 0, none⟩ : Addr).add ((i : Int).toNat * 2) = ⟨g, i * 2, none⟩ := by
      rw [addr_add]; simp
    rw [ea] at h0 h1
    exact ⟨h0, h1⟩

theorem shF_sorted {g : Nat → Int} : ∀ k i (h : i < (shF g k).length), (0 < i → (shF g k)[i - 1].f0 < (shF g k)[i].f0) ∧ (shF g k)[i].f1 = g (shF g k)[i].f0.toNat
  | 0, i, h => by simp [shF] at h
  | k + 1, i, h => by
    by_cases c : 0 < g k
    · have e : shF g (k + 1) = shF g k ++ [⟨k, g k⟩] := by rw [shF_succ, if_pos c]
      simp only [e] at h ⊢
      by_cases hi : i < (shF g k).length
      · have ih := shF_sorted k i hi
        rw [List.getElem_append_left hi]
        refine ⟨fun h0 => ?_, ih.2⟩
        rw [List.getElem_append_left (by omega)]
        exact ih.1 h0
      · have e2 : i = (shF g k).length := by simp at h; omega
        subst e2
        rw [List.getElem_append_right (Nat.le_refl _)]
        refine ⟨fun h0 => ?_, by simp⟩
        rw [List.getElem_append_left (by omega)]
        have := (shF_mem k _ (List.getElem_mem (show (shF g k).length - 1 < (shF g k).length by omega))).2.1
        simpa using this
    · have e : shF g (k + 1) = shF g k := by rw [shF_succ, if_neg c]
      simp only [e] at h ⊢
      exact shF_sorted k i h

/-- What PoolSums asks of each entry. -/
def GoodL (p : Pl) (l : List Sh20) : Prop := ∀ i (h : i < l.length), 1 ≤ l[i].f1 ∧ p.held l[i].f0 = l[i].f1 ∧ (0 < i → l[i - 1].f0 < l[i].f0)
theorem shTo_good (p : Pl) : GoodL p (shTo p.hs 64) := by
  intro i h
  have hm := shF_mem (g := fun i => p.hs.getD i 0) 64 (shTo p.hs 64)[i] (by rw [← shTo_shF]; exact List.getElem_mem h)
  have hs := shF_sorted (g := fun i => p.hs.getD i 0) 64 i (by rw [← shTo_shF]; exact h)
  simp only [← shTo_shF] at hs
  refine ⟨by omega, ?_, hs.1⟩
  unfold Pl.held
  rw [if_pos ⟨by omega, by omega⟩]
  exact hs.2.symm

def SumsRel (w : World) (len : Nat) (i : Value) (wr : World) : Prop :=
  ∃ (k : Nat) (p : Pl), i = .int .i64 k ∧ k ≤ len ∧ k ≤ 60 ∧ p.ok ∧ PlAt wr w.heap.size p ∧ Quiet w wr
def SumIn (wo : World) (l : List Sh20) (F : Int) (n i : Value) (wr : World) : Prop :=
  ∃ j : Nat, j ≤ l.length ∧ i = .int .i64 j ∧ n = .int .i64 (F + sumF (l.take j)) ∧ Quiet wo wr

set_option maxRecDepth 100000 in
set_option maxHeartbeats 4000000 in
theorem plSums (w : World) (total : Int) (v : Value) (len : Nat) (ks ts ns : Nat → Int) (hv : SlR w w.heap.size v 3 len (opC3 ks ts ns)) :
    Calls Try.prog 6 #[.int .i64 total, v] w fun e w' => e = .returned (.bool true) ∧ Quiet w w' := by
  have HV := Lib.hid hv; clear hv
  have hn := new_ok total
  have C0 := Lib.hid (plNew w total)
  generalize Pl.new total = p0 at *
  go_enter Try.func6, Try.ntmps6
  go_wp2_with ((go_at_call 25; refine C0.out.mono ?_; rintro e w1 ⟨rfl, h0, hf0⟩; have R0 : Hid (SumsRel w len (.int .i64 0) w1) := ⟨0, p0, rfl, by omega, by omega, hn, h0, hf0⟩; clear h0 hf0))
  clear C0 hn
  rcases HV.out with ⟨rfl, av, rfl⟩ | ⟨b, o, cap, hb, hl, rfl, hc⟩
  · clear HV
    go_wp2_with fail
    refine wp_loop_rounds 1 ?_; rw [rounds_succ]
    go_wp2_with ((go_at_call 35; refine (plLives _).mono ?_; rintro e w' ⟨rfl, hf⟩))
    go_ret
    obtain ⟨_, _, _, _, _, _, _, hq⟩ := R0.out
    exact ⟨rfl, hq.quiet hf⟩
  clear HV
  have HC := Lib.hid hc; clear hc
  go_wp2_with fail
  go_loopw [6] (fun i wr => SumsRel w len i wr) (fun i _ => len - (intOf i).toNat)
  case atStart => exact R0.out
  case round =>
    clear R0
    obtain ⟨k, p, rfl, hk1, hk2, hp, hP, hQ⟩ := hrel
    by_cases hlt : k < len
    · by_cases h60 : k < 60
      · have hc0 : wr.cell? ⟨b, o + k * 3, none⟩ = some (.int .i64 (ks k)) := by rw [hQ.rules.1 _ _ hb]; exact HC.out k 0 hlt (by omega)
        have hc1 : wr.cell? ⟨b, o + k * 3 + 1, none⟩ = some (.int .i64 (ts k)) := by rw [hQ.rules.1 _ _ hb]; exact HC.out k 1 hlt (by omega)
        have hc2 : wr.cell? ⟨b, o + k * 3 + 2, none⟩ = some (.int .i64 (ns k)) := by rw [hQ.rules.1 _ _ hb]; exact HC.out k 2 hlt (by omega)
        have hp1 := pact_ok p hp (ks k) (ts k) (ns k)
        have HD := Lib.hid (plDo wr w.heap.size p hP hp (ks k) (ts k) (ns k))
        generalize p.act (ks k) (ts k) (ns k) = r at *
        obtain ⟨p1, rv⟩ := r
        simp only at hp1 HD
        have HQ := Lib.hid hQ; clear hP hQ
        go_upto_block 2 with (first
          | (go_at_call 29; refine HD.out.mono ?_; rintro e w1 ⟨rfl, hP1, hf1⟩)
          | (go_at_call 31; refine (plFree _ _ _ hP1).mono ?_; rintro e w' ⟨rfl, rfl⟩)
          | (go_at_call 30; refine (plShares _ _ _ hP1 hp1.1).mono ?_; rintro e w2 ⟨v2, rfl, hSh0, hf2⟩; have hSh := R20.of hSh0; replace hP1 := hf2.blk hP1 (fun q => q)))
        have hQ2 : Quiet w w2 := (HQ.out.one hf1 (.inr (Nat.le_refl _))).quiet hf2
        have HQ2 := Lib.hid hQ2
        clear hQ2 hc0 hc1 hc2 HD HQ hf1 hf2 hSh0
        have G := Lib.hid (shTo_good p1)
        have hll : (shTo p1.hs 64).length ≤ 64 := shTo_len _ _
        have hsum : Hid (p1.F + sumF (shTo p1.hs 64) = p1.T) := by
          obtain ⟨h1, h2, h3, h4, h5⟩ := hp1
          unfold Hid; rw [sumF_shTo p1.hs h3 64 (by omega), List.take_of_length_le (by omega)]; exact h4
        have hpos : Hid (∀ x ∈ shTo p1.hs 64, 0 < x.f1) := fun x hx => by rw [shTo_shF] at hx; exact (shF_mem 64 x hx).2.2
        generalize shTo p1.hs 64 = l at *
        have hFT : 0 ≤ p1.F ∧ p1.T ≤ 1000 := ⟨hp1.2.1, hp1.2.2.2.2⟩
        obtain ⟨hF0, hT⟩ := hFT
        have HP1 := Lib.hid hP1; have HS := Lib.hid hSh
        obtain ⟨wo, rfl⟩ : ∃ wo : World, wo = wr := ⟨_, rfl⟩
        clear hP1 hSh
        go_cut [7] (fun s wx => s = .int .i64 p1.T ∧ Quiet w2 wx)
        case first =>
          rcases HS.out.cells with ⟨rfl, av, cv, rfl⟩ | ⟨g, cv, rfl, hcl⟩
          · have E : Hid (p1.F = p1.T) := by have := hsum.out; simp [sumF] at this; exact this
            go_wp2_with fail
            refine wp_loop_rounds 1 ?_; rw [rounds_succ]
            go_wp2_with fail
            go_meet
            exact ⟨by rw [E.out], Fr.refl _ _⟩
          · have HCL := Lib.hid hcl; clear hcl
            go_wp2_with fail
            go_loopw [7, 9] (fun n i wr => SumIn w2 l p1.F n i wr) (fun _ i _ => l.length - (intOf i).toNat)
            case atStart => exact ⟨0, by omega, rfl, by simp [sumF], Fr.refl _ _⟩
            case round =>
              obtain ⟨j, hj, rfl, rfl, hQi⟩ := hrel
              obtain ⟨wi, rfl⟩ : ∃ wi : World, wi = wr := ⟨_, rfl⟩
              have HQi := Lib.hid hQi
              by_cases hjl : j < l.length
              · have hgj := G.out j hjl
                have hcj := HCL.out j hjl
                have hsj : Hid (sumF (l.take (j + 1)) = sumF (l.take j) + l[j].f1) := by
                  unfold Hid; rw [List.take_succ_eq_append_getElem hjl, sumF_append]; simp [sumF]
                have hsb : 0 ≤ sumF (l.take j) ∧ sumF (l.take j) + l[j].f1 ≤ 1000 := by
                  have e : sumF l = sumF (l.take (j + 1)) + sumF (l.drop (j + 1)) := by rw [← sumF_append, List.take_append_drop]
                  have n1 := sumF_nonneg (l.drop (j + 1)) (fun x hx => hpos.out x (List.mem_of_mem_drop hx))
                  have n2 := sumF_nonneg (l.take j) (fun x hx => hpos.out x (List.mem_of_mem_take hx))
                  have := hsum.out; have := hsj.out; omega
                have hsb2 : p1.F + sumF (l.take j) + l[j].f1 ≤ 1000 := by
                  have e : sumF l = sumF (l.take (j + 1)) + sumF (l.drop (j + 1)) := by rw [← sumF_append, List.take_append_drop]
                  have n1 := sumF_nonneg (l.drop (j + 1)) (fun x hx => hpos.out x (List.mem_of_mem_drop hx))
                  have := hsum.out; have := hsj.out; omega
                obtain ⟨hsb0, _⟩ := hsb
                have hHD : Hid (∀ w', Quiet wi w' → Calls Try.prog 33 #[.pointer (some ⟨w.heap.size, 0, none⟩), .int .i64 l[j].f0] w' fun e w'' => e = .returned (.int .i64 l[j].f1) ∧ w' = w'') := by
                  intro w' q
                  have := plHeld w' w.heap.size p1 ((hQi.quiet q).blk HP1.out (fun q => q)) hp1.1 l[j].f0
                  rwa [hgj.2.1] at this
                have hc0 : wi.cell? ⟨g, j * 2, none⟩ = some (.int .i64 l[j].f0) := hQi.cell hcj.1 (fun q => q)
                have hc1 : wi.cell? ⟨g, j * 2 + 1, none⟩ = some (.int .i64 l[j].f1) := hQi.cell hcj.2 (fun q => q)
                have hx1 := hgj.1
                have hxy := hgj.2.2
                clear hgj hcj
                have HSJ := hsj
                generalize hsum1 : sumF (l.take (j + 1)) = s1 at *
                generalize sumF (l.take j) = s0 at *
                have R1 : Hid (∀ wx, Quiet wi wx → SumIn w2 l p1.F (.int .i64 (p1.F + s1)) (.int .i64 ((j + 1 : Nat) : Int)) wx) := fun wx q => ⟨j + 1, by omega, rfl, by rw [hsum1], hQi.quiet q⟩
                have HS1 := Lib.hid hsum1
                clear hsum1 hQi hsj
                cases j with
                | zero =>
                  clear hxy
                  generalize l[0].f0 = x0 at *
                  generalize l[0].f1 = x1 at *
                  have hb1 : decide (x1 < 1) = false := by simp; omega
                  rw [show ((0 : Nat) : Int) = 0 from rfl]
                  go_wp2_with fail
                  go_cut [78] (fun s wx => s = .bool false ∧ Quiet wi wx)
                  case first =>
                    have hc0' : wi.cell? ⟨g, 0, none⟩ = some (.int .i64 x0) := by simpa using hc0
                    have hc1' : wi.cell? ⟨g, 1, none⟩ = some (.int .i64 x1) := by simpa using hc1
                    go_quiet ((go_at_call 33; exact Calls.quiet_of_same ((hHD.out _ ((Fr.refl _ _).drewN _)).mono (fun e w' h => ⟨h.1, h.2.symm⟩))))
                    go_wp2_with fail
                    go_meet
                    exact ⟨rfl, by (repeat (first | exact Fr.refl _ _ | assumption | (refine Fr.quiet ?_ (by assumption)) | refine Fr.quiet ?_ HF.out | refine Fr.quiet ?_ HF2.out | refine Fr.drew ?_ | refine Fr.drewN ?_ _ | refine Fr.alloc ?_ _ | refine Fr.setCell ?_ (.inr (by simp)) _))⟩
                  case rest =>
                    obtain ⟨rfl, hQc⟩ := hcut
                    have hc1' : wc.cell? ⟨g, 1, none⟩ = some (.int .i64 x1) := hQc.cell (by simpa using hc1) (fun q => q)
                    have HQC := Lib.hid hQc
                    clear hQc hc0 hc1
                    have E : Hid (p1.F + s0 + x1 = p1.F + s1) := by have := HSJ.out; unfold Hid; omega
                    go_wp2_with fail
                    go_roundw
                    case rel => rw [E.out]; exact R1.out _ HQC.out
                    case measure => simp [intOf]; omega
                | succ j =>
                  have hy0 : wi.cell? ⟨g, j * 2, none⟩ = some (.int .i64 l[j].f0) := HQi.out.cell (HCL.out j (by omega)).1 (fun q => q)
                  have hlt1 := hxy (by omega)
                  simp only [Nat.add_sub_cancel] at hlt1
                  clear hxy
                  generalize l[j + 1].f0 = x0 at *
                  generalize l[j + 1].f1 = x1 at *
                  generalize l[j].f0 = y0 at *
                  have hb1 : decide (x1 < 1) = false := by simp; omega
                  have hb2 : decide (x0 ≤ y0) = false := by simp; omega
                  have hb3 : decide ((0 : Int) < (j : Int) + 1) = true := decide_eq_true (by omega)
                  have i1 : (0 : Int) ≤ (j : Int) + 1 := by omega
                  have i2 : (j : Int) + 1 < (l.length : Int) := by omega
                  have i3 : ((j : Int) + 1).toNat = j + 1 := by omega
                  have i4 : (0 : Int) ≤ (j : Int) := by omega
                  have i5 : (j : Int) < (l.length : Int) := by omega
                  go_wp2_with fail
                  go_cut [78] (fun s wx => s = .bool false ∧ Quiet wi wx)
                  case first =>
                    have i6 : IntKind.i64.wrap ((j : Int) + 1 - 1) = (j : Int) := by rw [IntKind.wrap_i64]; omega
                    have i7 : IntKind.i64.wrap (j : Int) = (j : Int) := by rw [IntKind.wrap_i64]; omega
                    go_region_held3 (fun w' => w'.cell? ⟨g, (j + 1) * 2, none⟩ = some (.int .i64 x0) ∧ w'.cell? ⟨g, (j + 1) * 2 + 1, none⟩ = some (.int .i64 x1) ∧ w'.cell? ⟨g, j * 2, none⟩ = some (.int .i64 y0) ∧ Quiet wi w')
                      (exact ⟨by first | exact hc0 | assumption, by first | exact hc1 | assumption, by first | exact hy0 | assumption, by first | exact (Fr.refl _ _).drew | exact Fr.refl _ _ | assumption⟩)
                      (first | (go_at_call 33; refine (hHD.out _ (Fr.drew (Fr.refl _ _))).mono ?_; rintro e w' ⟨rfl, rfl⟩))
                    go_wp2_with fail
                    go_meet
                    exact ⟨rfl, by (repeat (first | exact Fr.refl _ _ | assumption | (refine Fr.quiet ?_ (by assumption)) | refine Fr.quiet ?_ HF.out | refine Fr.quiet ?_ HF2.out | refine Fr.drew ?_ | refine Fr.drewN ?_ _ | refine Fr.alloc ?_ _ | refine Fr.setCell ?_ (.inr (by simp)) _))⟩
                  case rest =>
                    obtain ⟨rfl, hQc⟩ := hcut
                    have hc1' : wc.cell? ⟨g, (j + 1) * 2 + 1, none⟩ = some (.int .i64 x1) := hQc.cell hc1 (fun q => q)
                    have HQC := Lib.hid hQc
                    clear hQc hc0 hc1 hy0
                    have E : Hid (p1.F + s0 + x1 = p1.F + s1) := by have := HSJ.out; unfold Hid; omega
                    go_wp2_with fail
                    go_roundw
                    case rel => rw [E.out]; exact R1.out _ HQC.out
                    case measure => simp [intOf]; omega
              · obtain rfl : j = l.length := by omega
                have E : Hid (p1.F + sumF (l.take l.length) = p1.T) := by unfold Hid; rw [List.take_of_length_le (by omega)]; exact hsum.out
                go_wp2_with fail
                go_meet
                exact ⟨by rw [E.out], HQi.out⟩
        case rest =>
          obtain ⟨rfl, hQc⟩ := hcut
          have hP9 : PlAt wc w.heap.size p1 := hQc.blk HP1.out (fun q => q)
          have R : Hid (SumsRel w len (.int .i64 ((k + 1 : Nat) : Int)) wc) := ⟨k + 1, p1, rfl, by omega, by omega, hp1, hP9, HQ2.out.quiet hQc⟩
          clear hQc
          go_wp2_with (first
            | (go_at_call 31; refine (plFree _ _ _ hP9).mono ?_; rintro e w' ⟨rfl, rfl⟩)
            | (go_at_call 27; refine (plTotal _ _ _ hP9).mono ?_; rintro e w' ⟨rfl, rfl⟩))
          go_roundw
          case rel => exact R.out
          case measure => simp [intOf]; omega
      · have HQ := Lib.hid hQ
        clear hP hQ
        go_wp2_with ((go_at_call 35; refine (plLives _).mono ?_; rintro e w' ⟨rfl, hf⟩))
        go_ret
        exact ⟨rfl, HQ.out.quiet hf⟩
    · have HQ := Lib.hid hQ
      clear hP hQ
      go_wp2_with ((go_at_call 35; refine (plLives _).mono ?_; rintro e w' ⟨rfl, hf⟩))
      go_ret
      exact ⟨rfl, HQ.out.quiet hf⟩

/-- PoolSums over data. -/
theorem plSumsW (W : World) (total : Int) (_ : -9223372036854775808 ≤ total ∧ total ≤ 9223372036854775807) (v : Value) (l : List (Int × Int × Int)) (h : (shL (shP shInt (shP shInt shInt))).rd W W.heap.size l [v]) :
    Calls Try.prog 6 #[.int .i64 total, v] W fun e w' => e = .returned (.bool true) ∧ Quiet W w' :=
  plSums W total v l.length _ _ _ (slR_triples h).1

end Go.Proofs.Ytcmfbkajafbjnaa
