/- The walk of PoolPlays. -/
import Derived.Test.YtcmfbkajafbjnaaPq
import Derived.Test.YtcmfbkajafbjnaaShape
import Derived.Deep.RegionHeld3
import Derived.LoopTactic
import Derived.Deep.DeepCutAuto
namespace Go.Proofs.Ytcmfbkajafbjnaa
open Go.RowKit Go.Proofs.YtcmfbkajafbjnaaW.PrintWords Go.Proofs.YtcmfbkajafbjnaaW.PrintLast Go.Proofs.YtcmfbkajafbjnaaW.PrintMore PPoolPlays
set_option linter.unusedSimpArgs false
set_option linter.unusedVariables false

/-- The reference's list, a row of the call's own. -/
def R20 (w : World) (base : Nat) (v : Value) (l : List Sh20) : Prop := Kd.R k31 31 w base (fun k => v.ownBlock = some k) v l
theorem R20.of {w : World} {base : Nat} {ok : Nat → Prop} {v : Value} {l : List Sh20} (h : Kd.R k31 31 w base ok v l) : R20 w base v l :=
  ⟨fun k hk => hk, h.2.imp_ (fun _ _ q => q)⟩
theorem R20.fr {w w1 : World} {base : Nat} {v : Value} {l : List Sh20} {F : Nat → Prop} (h : R20 w base v l) (hf : Fr F w w1) (hF : ∀ k, v.ownBlock = some k → ¬ F k) : R20 w1 base v l :=
  Kd.R_step h (fun k ho hk => hf.block k hk (hF k ho))
theorem R20.ne {w : World} {base : Nat} {v : Value} {l : List Sh20} (h : R20 w base v l) {g : Nat} {cs : Array Value} {t : TypeId} (hb : Blk w g cs t) (ht : 31 ≠ t) : v.ownBlock ≠ some g := fun e => Kd.R_ne h hb ht e.symm
theorem R20.own {w : World} {base : Nat} {v : Value} {l : List Sh20} (h : R20 w base v l) : ∀ k, v.ownBlock = some k → base ≤ k ∧ k < w.heap.size := by
  obtain ⟨inner, ho⟩ := Kd.R_own h
  exact ho.lt
theorem R20.reads {w : World} {base : Nat} {v : Value} {l : List Sh20} (h : R20 w base v l) : ∃ A c, v = .slice A l.length c ∧ l.length ≤ c ∧ Kd.C k31 w A l.length l := Kd.R_reads h
theorem Fr.of_kept {S : Nat → Prop} {n : Nat} {a w w' : World} (h : Below n a w) (h' : Below n a w') (hk : Kept w w' S) : Fr S w w' :=
  ⟨h'.os.trans h.os.symm, h'.tape.trans h.tape.symm, h'.output.trans h.output.symm, hk.1, hk.2⟩
theorem Fr.of_drawn {w w' : World} (h : Drawn0 w w') : Quiet w w' := by
  obtain ⟨n, rfl⟩ := h
  exact (Fr.refl _ _).drewN n

theorem r20Do (w0 w : World) (hB : Below w0.heap.size w0 w) (p : Pl) (hp : p.ok) (v : Value) (hR : R20 w w0.heap.size v (shTo p.hs 64)) (k t n : Int) :
    Calls Try.prog 28 #[.agg #[.int .i64 p.T, v], .agg #[.int .i64 k, .int .i64 t, .int .i64 n]] w fun e w' =>
      ∃ A c, e = .returned (.tuple #[.agg #[.int .i64 (p.act k t n).1.T, .slice A (shTo (p.act k t n).1.hs 64).length c], .int .i64 (p.act k t n).2]) ∧ R20 w' w0.heap.size (.slice A (shTo (p.act k t n).1.hs 64).length c) (shTo (p.act k t n).1.hs 64) ∧ Fr (fun i => v.ownBlock = some i) w w' := by
  refine (logjamref20_Do.calls 1000 _ _ _ _ _ _ _ _ _ _ w0 w hB hR (do_f p hp k t n 1000 (by omega))).mono ?_
  rintro e w' ⟨v1, rfl, h1, h2, h3⟩
  obtain ⟨A, c, rfl⟩ := Kd.R_slice h1
  exact ⟨A, c, rfl, R20.of h1, Fr.of_kept hB h2 h3⟩

theorem r20Free (w : World) (base : Nat) (p : Pl) (hp : p.ok) (A : Option Addr) (c : Nat) (hR : R20 w base (.slice A (shTo p.hs 64).length c) (shTo p.hs 64)) :
    Calls Try.prog 32 #[.agg #[.int .i64 p.T, .slice A (shTo p.hs 64).length c]] w fun e w' => e = .returned (.int .i64 p.F) ∧ Quiet w w' := by
  obtain ⟨A', c', he, hl, hC⟩ := hR.reads
  simp only [Value.slice.injEq, true_and] at he
  obtain ⟨rfl, rfl⟩ := he
  exact (logjamref20_Free.calls 65 _ _ _ _ _ w hC hl (free_f p hp 65 (by omega))).mono fun e w' ⟨h1, h2⟩ => ⟨h1, Fr.of_below h2⟩
theorem r20Held (w : World) (base : Nat) (p : Pl) (hp : p.ok) (A : Option Addr) (c : Nat) (hR : R20 w base (.slice A (shTo p.hs 64).length c) (shTo p.hs 64)) (t : Int) :
    Calls Try.prog 34 #[.agg #[.int .i64 p.T, .slice A (shTo p.hs 64).length c], .int .i64 t] w fun e w' => e = .returned (.int .i64 (p.held t)) ∧ Quiet w w' := by
  obtain ⟨A', c', he, hl, hC⟩ := hR.reads
  simp only [Value.slice.injEq, true_and] at he
  obtain ⟨rfl, rfl⟩ := he
  exact (logjamref20_Held.calls 65 _ _ _ _ _ _ w hC hl (held_f p.hs hp.1 hp.2.2.1 p.T t 65 (by omega))).mono fun e w' ⟨h1, h2⟩ => ⟨h1, Fr.of_below h2⟩
/-- Two lists that are one. -/
theorem sameYes (w : World) (base base' : Nat) (l : List Sh20) (hl : l.length ≤ 1000) (v v' : Value) (h : R20 w base v l) (h' : R20 w base' v' l) :
    Calls Try.prog 20 #[v, v'] w fun e w' => e = .returned (.bool true) ∧ Quiet w w' := by
  obtain ⟨A, c, rfl, hc, hC⟩ := h.reads
  obtain ⟨A', c', rfl, hc', hC'⟩ := h'.reads
  exact (logjamlaw20_Same.calls 1001 _ _ l _ _ l true w hC hc hC' hc' (same_f l hl 1001 (by omega))).mono fun e w' ⟨h1, h2⟩ => ⟨h1, Fr.of_drawn h2⟩

def PoolRel (w : World) (len bx : Nat) (i : Value) (wr : World) : Prop :=
  ∃ (k : Nat) (p : Pl) (A : Option Addr) (c : Nat), i = .int .i64 k ∧ k ≤ len ∧ k ≤ 60 ∧ p.ok ∧ PlAt wr w.heap.size p ∧ Blk wr bx #[.int .i64 p.T, .slice A (shTo p.hs 64).length c] 46 ∧
    R20 wr w.heap.size (.slice A (shTo p.hs 64).length c) (shTo p.hs 64) ∧ Quiet w wr

theorem newT (total : Int) : (Pl.new total).T = mn (mx total 0) 1000 := by
  unfold Pl.new mn mx; simp only; omega

set_option maxRecDepth 100000 in
set_option maxHeartbeats 4000000 in
theorem plPlays (w : World) (total : Int) (v : Value) (len : Nat) (ks ts ns : Nat → Int) (hv : SlR w w.heap.size v 3 len (opC3 ks ts ns)) :
    Calls Try.prog 5 #[.int .i64 total, v] w fun e w' => e = .returned (.bool true) ∧ Quiet w w' := by
  have HV := Lib.hid hv; clear hv
  have hn := new_ok total
  have hnT := newT total
  have hsh : shTo (Pl.new total).hs 64 = [] := by show shTo (List.replicate 64 0) 64 = []; rfl
  have C0 := Lib.hid (plNew w total)
  have HSH := Lib.hid hsh; have HT := Lib.hid hnT; clear hsh hnT
  generalize Pl.new total = p0 at *
  go_enter Try.func5, Try.ntmps5
  go_wp2_with (first
    | (go_at_call 25; refine C0.out.mono ?_; rintro e w1 ⟨rfl, h0, hf0⟩; have H0 := Lib.hid h0; have HF0 := Lib.hid hf0; have hs0 := h0.lt; clear h0 hf0)
    | (go_at_call 26; refine (logjamref20_New.calls total _ _ _ rfl).mono ?_; rintro e w2 ⟨v1, rfl, hR, hB⟩; obtain ⟨A1, c1, rfl⟩ := Kd.R_slice hR; have HR := Lib.hid (R20.of hR); have HF1 := Lib.hid (Fr.of_below (F := fun _ => False) hB); have hs1 := hB.size; clear hR hB))
  rw [← HT.out]
  generalize hbx : w2.heap.size = bx at *
  have hp2 : PlAt w2 w.heap.size p0 := HF1.out.blk H0.out (fun q => q)
  have hR2 : R20 w2 w.heap.size (.slice A1 (shTo p0.hs 64).length c1) (shTo p0.hs 64) := by
    rw [HSH.out]; exact Kd.R_lower HR.out (by omega)
  have hQ2 : Quiet w w2 := HF0.out.quiet HF1.out
  obtain ⟨w3, hw3⟩ : ∃ w3, w3 = w2.alloc (.cells #[.int .i64 p0.T, .slice A1 0 c1] 46) := ⟨_, rfl⟩
  have hp3 : PlAt w3 w.heap.size p0 := by rw [hw3]; exact hp2.alloc _
  have hR3 : R20 w3 w.heap.size (.slice A1 (shTo p0.hs 64).length c1) (shTo p0.hs 64) := by
    rw [hw3]; exact hR2.fr ((Fr.refl (fun _ => False) _).alloc _) (fun _ _ q => q)
  have hX3 : Blk w3 bx #[.int .i64 p0.T, .slice A1 (shTo p0.hs 64).length c1] 46 := by
    rw [hw3, HSH.out, ← hbx]; exact Blk.new _ _ _
  have hQ3 : Quiet w w3 := by rw [hw3]; exact hQ2.alloc _
  rw [← hw3]
  clear hw3 hQ2 hR2 hp2 HR HF1 HF0 H0 C0 HT
  have hbb : w.heap.size < bx := by omega
  clear hbx hs1 hs0
  have hx0 := hX3.cell 0; simp at hx0
  have hXl := hX3.lt
  have HP := Lib.hid hp3; have HR := Lib.hid hR3; have HX := Lib.hid hX3; have HQ := Lib.hid hQ3; clear hp3 hR3 hX3 hQ3
  have HSH' := Lib.hid (congrArg List.length HSH.out)
  go_cut [22] (fun s wx => s = .bool false ∧ Quiet w3 wx)
  case first =>
    go_region_held3 (fun w' => w'.cell? ⟨bx, 0, none⟩ = some (.int .i64 p0.T) ∧ Quiet w3 w')
      (exact ⟨by first | exact hx0 | assumption, by first | exact Fr.refl _ _ | exact (Fr.refl _ _).drew | assumption⟩)
      (first | (go_at_call 27; refine (plTotal _ _ _ HP.out.drew).mono ?_; rintro e w' ⟨rfl, rfl⟩))
    go_wp2_with fail
    go_meet
    exact ⟨rfl, (Fr.refl _ _).drew⟩
  case rest =>
  obtain ⟨rfl, hQc⟩ := hcut
  have hp4 : PlAt wc w.heap.size p0 := hQc.blk HP.out (fun q => q)
  have hR4 := HR.out.fr hQc (fun _ _ q => q)
  have hX4 := hQc.blk HX.out (fun q => q)
  have hQ4 : Quiet w wc := HQ.out.quiet hQc
  have R0 : Hid (PoolRel w len bx (.int .i64 0) wc) := ⟨0, p0, A1, c1, rfl, by omega, by omega, hn, hp4, hX4, hR4, hQ4⟩
  clear hp4 hR4 hX4 hQ4 hQc HP HR HX HQ HSH HSH' hx0 hXl hn
  rcases HV.out with ⟨rfl, av, rfl⟩ | ⟨b, o, cap, hb, hl, rfl, hc⟩
  · clear HV
    go_wp2_with fail
    refine wp_loop_rounds 1 ?_; rw [rounds_succ]
    go_wp2_with ((go_at_call 35; refine (plLives _).mono ?_; rintro e w' ⟨rfl, hf⟩))
    go_ret
    obtain ⟨_, _, _, _, _, _, _, _, _, _, _, hq⟩ := R0.out
    exact ⟨rfl, hq.quiet hf⟩
  clear HV
  have HC := Lib.hid hc; clear hc
  go_wp2_with fail
  go_loopw [7] (fun i wr => PoolRel w len bx i wr) (fun i _ => len - (intOf i).toNat)
  case atStart => exact R0.out
  case round =>
    clear R0
    obtain ⟨k, p, A, c, rfl, hk1, hk2, hp, hP, hX, hR, hQ⟩ := hrel
    by_cases hlt : k < len
    · by_cases h60 : k < 60
      · have hne := hR.ne hX (by decide)
        have hneP := hR.ne hP (by decide)
        have hown := hR.own
        have hneb : (Value.slice A (shTo p.hs 64).length c).ownBlock ≠ some b := fun q => by have := (hown b q).1; omega
        have hc0 : wr.cell? ⟨b, o + k * 3, none⟩ = some (.int .i64 (ks k)) := by rw [hQ.rules.1 _ _ hb]; exact HC.out k 0 hlt (by omega)
        have hc1 : wr.cell? ⟨b, o + k * 3 + 1, none⟩ = some (.int .i64 (ts k)) := by rw [hQ.rules.1 _ _ hb]; exact HC.out k 1 hlt (by omega)
        have hc2 : wr.cell? ⟨b, o + k * 3 + 2, none⟩ = some (.int .i64 (ns k)) := by rw [hQ.rules.1 _ _ hb]; exact HC.out k 2 hlt (by omega)
        have hx0 := hX.cell 0; simp at hx0
        have hx1 := hX.cell 1; simp at hx1
        have HS : Hid (∀ w', Fr (fun i => (Value.slice A (shTo p.hs 64).length c).ownBlock = some i) wr w' → w'.cell? ⟨bx, 0, none⟩ = some (.int .i64 p.T) ∧ w'.cell? ⟨bx, 1, none⟩ = some (.slice A (shTo p.hs 64).length c) ∧
            w'.cell? ⟨b, o + k * 3, none⟩ = some (.int .i64 (ks k)) ∧ w'.cell? ⟨b, o + k * 3 + 1, none⟩ = some (.int .i64 (ts k)) ∧ w'.cell? ⟨b, o + k * 3 + 2, none⟩ = some (.int .i64 (ns k)) ∧ Fr (fun i => (Value.slice A (shTo p.hs 64).length c).ownBlock = some i) wr w') :=
          fun w' q => ⟨q.cell hx0 hne, q.cell hx1 hne, q.cell hc0 hneb, q.cell hc1 hneb, q.cell hc2 hneb, q⟩
        have HX := Lib.hid hX; have HP := Lib.hid hP; have HQ := Lib.hid hQ; have HR := Lib.hid hR; have HO := Lib.hid (fun i q => (hown i q).2); have HN := Lib.hid hne; have HNP := Lib.hid hneP
        clear hX hP hQ hR hown hne hneP hneb
        have hp1 := pact_ok p hp (ks k) (ts k) (ns k)
        go_wp2_with fail
        go_cut [8, 9] (fun s8 s9 wx => ∃ (g : Nat) (A1 : Option Addr) (c1 : Nat), s8 = .pointer (some ⟨g, 0, none⟩) ∧ s9 = .int .i64 (p.act (ks k) (ts k) (ns k)).2 ∧ Blk wx g #[.int .i64 (p.act (ks k) (ts k) (ns k)).1.T, .slice A1 (shTo (p.act (ks k) (ts k) (ns k)).1.hs 64).length c1] 46 ∧
          R20 wx w.heap.size (.slice A1 (shTo (p.act (ks k) (ts k) (ns k)).1.hs 64).length c1) (shTo (p.act (ks k) (ts k) (ns k)).1.hs 64) ∧ Fr (fun i => (Value.slice A (shTo p.hs 64).length c).ownBlock = some i) wr wx)
        case first =>
          go_region_held3 (fun w' => w'.cell? ⟨bx, 0, none⟩ = some (.int .i64 p.T) ∧ w'.cell? ⟨bx, 1, none⟩ = some (.slice A (shTo p.hs 64).length c) ∧
            w'.cell? ⟨b, o + k * 3, none⟩ = some (.int .i64 (ks k)) ∧ w'.cell? ⟨b, o + k * 3 + 1, none⟩ = some (.int .i64 (ts k)) ∧ w'.cell? ⟨b, o + k * 3 + 2, none⟩ = some (.int .i64 (ns k)) ∧ Fr (fun i => (Value.slice A (shTo p.hs 64).length c).ownBlock = some i) wr w')
            (exact HS.out _ (by first | exact hF1 | (repeat (first | exact Fr.refl _ _ | refine Fr.drew ?_ | refine Fr.alloc ?_ _ | exact hF1 | refine Fr.setCell ?_ (.inr (by simp)) _))))
            (first | (go_at_call 28; refine (r20Do w _ ((HQ.out.quiet (by (repeat (first | exact Fr.refl _ _ | assumption | (refine Fr.quiet ?_ (by assumption)) | refine Fr.quiet ?_ HF.out | refine Fr.quiet ?_ HF2.out | refine Fr.drew ?_ | refine Fr.drewN ?_ _ | refine Fr.alloc ?_ _ | refine Fr.setCell ?_ (.inr (by simp)) _)))).below (fun _ _ q => q)) p hp _ (HR.out.fr (F := fun _ => False) (by (repeat (first | exact Fr.refl _ _ | assumption | (refine Fr.quiet ?_ (by assumption)) | refine Fr.quiet ?_ HF.out | refine Fr.quiet ?_ HF2.out | refine Fr.drew ?_ | refine Fr.drewN ?_ _ | refine Fr.alloc ?_ _ | refine Fr.setCell ?_ (.inr (by simp)) _))) (fun _ _ q => q)) _ _ _).mono ?_; rintro e w' ⟨A1, c1, rfl, hR1, hf⟩; have hc := (hf.rulesN wr.heap.size HO.out).1; have hz := (hf.rulesN wr.heap.size HO.out).2; have hs := hf.size; simp at hs; have hF1 : Fr (fun i => (Value.slice A (shTo p.hs 64).length c).ownBlock = some i) wr w' := Fr.trans (by repeat (first | exact Fr.refl _ _ | refine Fr.drew ?_ | refine Fr.alloc ?_ _)) hf (fun i q => .inl q)))
          all_goals (go_wp2_with fail; go_meet)
          · exact ⟨_, _, _, rfl, rfl, Blk.new _ _ _, hR1.fr ((Fr.refl (fun _ => False) _).alloc _) (fun _ _ q => q), hF1.alloc _⟩
          · have hg := hf.blk ((Blk.new wr #[.int .i64 0, .slice none 0 0] 46).drew) (fun q => by have := HO.out _ q; omega)
            have hne1 := hR1.ne hg (by decide)
            refine ⟨_, _, _, rfl, rfl, by simpa using (hg.set 0 (.int .i64 (p.act (ks k) (ts k) (ns k)).1.T)).set 1 (.slice A1 (shTo (p.act (ks k) (ts k) (ns k)).1.hs 64).length c1), ?_, ?_⟩
            · exact hR1.fr (F := (· = wr.heap.size)) ((Fr.one_set _ _ _ _).one_setCell _ _) (fun i q e => hne1 (by rw [← e]; exact q))
            · exact (hF1.setCell (.inr (Nat.le_refl _)) _).setCell (.inr (Nat.le_refl _)) _
        case rest =>
          obtain ⟨g, A1, c1, rfl, rfl, hg, hR1, hF1⟩ := hcut
          clear HS
          have hX2 := hF1.blk HX.out HN.out
          have hP2 : PlAt wc w.heap.size p := hF1.blk HP.out HNP.out
          have hQ2 : Quiet w wc := HQ.out.trans hF1 (fun i q => .inr (by have := (HR.out.own i q).1; omega))
          have hD := Lib.hid (fun w' h => plDo w' w.heap.size p h hp (ks k) (ts k) (ns k))
          clear hc0 hc1 hc2 hx0 hx1 HX HP HQ HR HO HN HNP hF1
          generalize p.act (ks k) (ts k) (ns k) = r at *
          obtain ⟨p1, rv⟩ := r
          simp only at *
          have hg0 := hg.cell 0; simp at hg0
          have hg1 := hg.cell 1; simp at hg1
          have hx0 := hX2.cell 0; simp at hx0
          have hx1 := hX2.cell 1; simp at hx1
          have f0 := hX2.free 0
          have f1 := hX2.free 1
          have hneX := hR1.ne hX2 (by decide)
          have hneP := hR1.ne hP2 (by decide)
          have hX7 : Blk ((wc.setCell ⟨bx, 0, none⟩ (.int .i64 p1.T)).setCell ⟨bx, 1, none⟩ (.slice A1 (shTo p1.hs 64).length c1)) bx #[.int .i64 p1.T, .slice A1 (shTo p1.hs 64).length c1] 46 := by simpa using (hX2.set 0 (.int .i64 p1.T)).set 1 (.slice A1 (shTo p1.hs 64).length c1)
          have hP7 : PlAt ((wc.setCell ⟨bx, 0, none⟩ (.int .i64 p1.T)).setCell ⟨bx, 1, none⟩ (.slice A1 (shTo p1.hs 64).length c1)) w.heap.size p := (Blk.set_other hP2 (by show bx ≠ _; omega) _).set_other (by show bx ≠ _; omega) _
          have hQ7 : Quiet w ((wc.setCell ⟨bx, 0, none⟩ (.int .i64 p1.T)).setCell ⟨bx, 1, none⟩ (.slice A1 (shTo p1.hs 64).length c1)) := (hQ2.setCell (.inr (by show _ ≤ bx; omega)) _).setCell (.inr (by show _ ≤ bx; omega)) _
          have hR7 : R20 ((wc.setCell ⟨bx, 0, none⟩ (.int .i64 p1.T)).setCell ⟨bx, 1, none⟩ (.slice A1 (shTo p1.hs 64).length c1)) w.heap.size (.slice A1 (shTo p1.hs 64).length c1) (shTo p1.hs 64) := hR1.fr (F := (· = bx)) ((Fr.one_set _ _ _ _).one_setCell _ _) (fun i q e => hneX (by rw [← e]; exact q))
          have HX := Lib.hid hX7; have HP := Lib.hid hP7; have HQ := Lib.hid hQ7; have HR := Lib.hid hR7; have HNP := Lib.hid hneP
          clear hX7 hP7 hQ7 hR7 hX2 hP2 hQ2 hR1 hg hneX hneP
          go_wp2_with fail
          generalize ((wc.setCell ⟨bx, 0, none⟩ (.int .i64 p1.T)).setCell ⟨bx, 1, none⟩ (.slice A1 (shTo p1.hs 64).length c1)) = w7 at *
          clear hg0 hg1 hx0 hx1 f0 f1
          have hlen : (shTo p1.hs 64).length ≤ 1000 := by have := shTo_len p1.hs 64; omega
          have HS : Hid (∀ w', Fr (· = w.heap.size) w7 w' → w'.cell? ⟨bx, 0, none⟩ = some (.int .i64 p1.T) ∧ w'.cell? ⟨bx, 1, none⟩ = some (.slice A1 (shTo p1.hs 64).length c1) ∧ w'.cell? ⟨b, o + k * 3, none⟩ = some (.int .i64 (ks k)) ∧ w'.cell? ⟨b, o + k * 3 + 1, none⟩ = some (.int .i64 (ts k)) ∧ w'.cell? ⟨b, o + k * 3 + 2, none⟩ = some (.int .i64 (ns k)) ∧ Fr (· = w.heap.size) w7 w') := by
            intro w' q
            have hX := HX.out
            have e0 := hX.cell 0; have e1 := hX.cell 1
            simp at e0 e1
            have hc0 : w7.cell? ⟨b, o + k * 3, none⟩ = some (.int .i64 (ks k)) := by rw [HQ.out.rules.1 _ _ hb]; exact HC.out k 0 hlt (by omega)
            have hc1 : w7.cell? ⟨b, o + k * 3 + 1, none⟩ = some (.int .i64 (ts k)) := by rw [HQ.out.rules.1 _ _ hb]; exact HC.out k 1 hlt (by omega)
            have hc2 : w7.cell? ⟨b, o + k * 3 + 2, none⟩ = some (.int .i64 (ns k)) := by rw [HQ.out.rules.1 _ _ hb]; exact HC.out k 2 hlt (by omega)
            exact ⟨q.cell e0 (by omega), q.cell e1 (by omega), q.cell hc0 (by omega), q.cell hc1 (by omega), q.cell hc2 (by omega), q⟩
          go_cut [89] (fun s wx => s = .bool false ∧ PlAt wx w.heap.size p1 ∧ R20 wx w.heap.size (.slice A1 (shTo p1.hs 64).length c1) (shTo p1.hs 64) ∧ Fr (· = w.heap.size) w7 wx)
          case first =>
            go_region_held3 (fun w' => w'.cell? ⟨bx, 0, none⟩ = some (.int .i64 p1.T) ∧ w'.cell? ⟨bx, 1, none⟩ = some (.slice A1 (shTo p1.hs 64).length c1) ∧ w'.cell? ⟨b, o + k * 3, none⟩ = some (.int .i64 (ks k)) ∧ w'.cell? ⟨b, o + k * 3 + 1, none⟩ = some (.int .i64 (ts k)) ∧ w'.cell? ⟨b, o + k * 3 + 2, none⟩ = some (.int .i64 (ns k)) ∧ Fr (· = w.heap.size) w7 w')
              (exact HS.out _ (by first | exact hF1 | exact (Fr.refl _ _).drew | exact Fr.refl _ _))
              (first
                | (go_at_call 29; refine (hD.out _ (Blk.drew HP.out)).mono ?_; rintro e w' ⟨rfl, hP1, hf⟩; have hF1 := hf.undrew; have hR1 := R20.fr HR.out hF1 (fun i q e => HNP.out (by rw [← e]; exact q)))
                | (go_at_call 30; refine (plShares _ _ _ hP1 hp1.1).mono ?_; rintro e w' ⟨v2, rfl, hSh0, hf⟩; have hSh := R20.of hSh0; replace hP1 := hf.blk hP1 (fun q => q); replace hR1 := R20.fr hR1 hf (fun _ _ q => q); replace hF1 := hF1.quiet hf)
                | (go_at_call 20; refine (sameYes _ _ _ _ hlen _ _ hSh hR1).mono ?_; rintro e w' ⟨rfl, hf⟩; replace hP1 := hf.blk hP1 (fun q => q); replace hR1 := R20.fr hR1 hf (fun _ _ q => q); replace hF1 := hF1.quiet hf)
                | (go_at_call 31; refine (plFree _ _ _ hP1).mono ?_; rintro e w' ⟨rfl, rfl⟩)
                | (go_at_call 32; refine (r20Free _ _ _ hp1 _ _ hR1).mono ?_; rintro e w' ⟨rfl, hf⟩; replace hP1 := hf.blk hP1 (fun q => q); replace hR1 := R20.fr hR1 hf (fun _ _ q => q); replace hF1 := hF1.quiet hf)
                | (go_at_call 33; refine (plHeld _ _ _ hP1 hp1.1 _).mono ?_; rintro e w' ⟨rfl, rfl⟩)
                | (go_at_call 34; refine (r20Held _ _ _ hp1 _ _ hR1 _).mono ?_; rintro e w' ⟨rfl, hf⟩; replace hP1 := hf.blk hP1 (fun q => q); replace hR1 := R20.fr hR1 hf (fun _ _ q => q); replace hF1 := hF1.quiet hf)
                | (go_at_call 27; refine (plTotal _ _ _ hP1).mono ?_; rintro e w' ⟨rfl, rfl⟩))
            go_wp2_with fail
            go_meet
            exact ⟨rfl, hP1, hR1, hF1⟩
          case rest =>
            obtain ⟨rfl, hP8, hR8, hF8⟩ := hcut
            have hX8 := hF8.blk HX.out (by omega)
            have hQ8 : Quiet w wc := HQ.out.trans hF8 (fun i e => .inr (by omega))
            have R : Hid (PoolRel w len bx (.int .i64 ((k + 1 : Nat) : Int)) wc) := ⟨k + 1, p1, A1, c1, rfl, by omega, by omega, hp1, hP8, hX8, hR8, hQ8⟩
            clear hX8 hQ8 hP8 hR8 hF8
            go_wp2_with fail
            go_roundw
            case rel => exact R.out
            case measure => simp [intOf]; omega
      · have HQ := Lib.hid hQ
        clear hP hX hR hQ
        go_wp2_with ((go_at_call 35; refine (plLives _).mono ?_; rintro e w' ⟨rfl, hf⟩))
        go_ret
        exact ⟨rfl, HQ.out.quiet hf⟩
    · have HQ := Lib.hid hQ
      clear hP hX hR hQ
      go_wp2_with ((go_at_call 35; refine (plLives _).mono ?_; rintro e w' ⟨rfl, hf⟩))
      go_ret
      exact ⟨rfl, HQ.out.quiet hf⟩

/-- PoolPlays over data. -/
theorem plPlaysW (W : World) (total : Int) (_ : -9223372036854775808 ≤ total ∧ total ≤ 9223372036854775807) (v : Value) (l : List (Int × Int × Int)) (h : (shL (shP shInt (shP shInt shInt))).rd W W.heap.size l [v]) :
    Calls Try.prog 5 #[.int .i64 total, v] W fun e w' => e = .returned (.bool true) ∧ Quiet W w' :=
  plPlays W total v l.length _ _ _ (slR_triples h).1

end Go.Proofs.Ytcmfbkajafbjnaa
