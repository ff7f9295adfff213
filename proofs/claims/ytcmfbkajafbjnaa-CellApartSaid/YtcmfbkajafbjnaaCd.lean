/- Walks over package cell: All, New, Clone, and what is not there. -/
import Derived.Test.YtcmfbkajafbjnaaCe
import Derived.Deep.RegionLaw
namespace Go.Proofs.Ytcmfbkajafbjnaa
open Go.RowKit Go.Proofs.YtcmfbkajafbjnaaW.PrintWords Go.Proofs.YtcmfbkajafbjnaaW.PrintLast Go.Proofs.YtcmfbkajafbjnaaW.PrintMore PCellPlays
set_option linter.unusedSimpArgs false
set_option linter.unusedVariables false

abbrev Sh22 := S31
/-- What All tells. -/
def allL (l : List (Int × Int × Int)) : List Sh22 := l.map fun x => ⟨x.1, x.2.2⟩

def AllRel (w : World) (l : List (Int × Int × Int)) (v i : Value) (wr : World) : Prop :=
  ∃ k : Nat, k ≤ l.length ∧ i = .int .i64 k ∧ Kd.R k31 31 wr w.heap.size (fun _ => True) v (allL (l.take k)) ∧ Below w.heap.size w wr

set_option maxRecDepth 100000 in
set_option maxHeartbeats 1000000 in
theorem ceAll {w : World} {b base : Nat} {l : List (Int × Int × Int)} (h : CeAt w b base l) (hl : l.length ≤ 1000) : Calls Try.prog 21 #[.pointer (some ⟨b, 0, none⟩)] w fun e w' =>
    ∃ v, e = .returned v ∧ Kd.R k31 31 w' w.heap.size (fun _ => True) v (allL l) ∧ Quiet w w' := by
  obtain ⟨v, hb, ho⟩ := h
  have h0 := hb.cell 0; simp at h0
  have hlt := hb.lt
  rcases ho.2 with ⟨rfl, hn⟩ | ⟨g, cap, cur, rfl, _⟩
  · have : l = [] := List.eq_nil_of_length_eq_zero hn
    subst this
    clear hb ho hn hl
    go_enter Try.func21, Try.ntmps21
    go_wp2
    refine wp_loop_rounds 1 ?_; rw [rounds_succ]
    go_wp2
    go_ret
    exact ⟨_, rfl, Kd.R_nil _ _ _ _ _, Fr.refl _ _⟩
  · have hgl := (ho.lt g rfl).2
    have HO := Lib.hid ho; have HB := Lib.hid hb; clear ho hb
    go_enter Try.func21, Try.ntmps21
    go_wp2
    go_loopw [3, 13] (fun v i wr => AllRel w l v i wr) (fun _ i _ => l.length - (intOf i).toNat)
    case atStart => exact ⟨0, by omega, rfl, by simpa [allL] using Kd.R_nil _ _ _ _ _, Below.refl _ _⟩
    case round =>
      obtain ⟨k, hk, rfl, hR, hB⟩ := hrel
      by_cases hlt2 : k < l.length
      · have hg := enc3_get l k hlt2
        have e1 : wr.cell? ⟨g, k * 3, none⟩ = some (.int .i64 l[k].1) := by rw [hB.cell hgl, HO.out.cellAt (k * 3) (by omega)]; exact hg.1
        have e2 : wr.cell? ⟨g, k * 3 + 1, none⟩ = some (.int .i64 l[k].2.1) := by rw [hB.cell hgl, HO.out.cellAt (k * 3 + 1) (by omega)]; exact hg.2.1
        have e3 : wr.cell? ⟨g, k * 3 + 2, none⟩ = some (.int .i64 l[k].2.2) := by rw [hB.cell hgl, HO.out.cellAt (k * 3 + 2) (by omega)]; exact hg.2.2
        have hgr : g < wr.heap.size := Nat.lt_of_lt_of_le hgl hB.size
        clear hg
        have ST : Hid (allL (l.take (k + 1)) = allL (l.take k) ++ [⟨l[k].1, l[k].2.2⟩]) := by unfold Hid allL; rw [List.take_succ_eq_append_getElem hlt2, List.map_append]; rfl
        have hlen : (allL (l.take k)).length ≤ 1000 := by unfold allL; simp; omega
        generalize l[k] = x at *
        obtain ⟨x1, x2, x3⟩ := x
        simp only at *
        go_upto_region 6 with fail
        obtain ⟨w2, hw2⟩ : ∃ w2, w2 = wr.alloc (.cells #[.int .i64 x1, .int .i64 x2, .int .i64 x3] 81) := ⟨_, rfl⟩
        have hX := Blk.new wr #[.int .i64 x1, .int .i64 x2, .int .i64 x3] 81
        have hR2 := Kd.R_below hR ((Below.refl _ wr).alloc (Nat.le_refl _) (.cells #[.int .i64 x1, .int .i64 x2, .int .i64 x3] 81))
        have hB2 := hB.alloc hB.size (.cells #[.int .i64 x1, .int .i64 x2, .int .i64 x3] 81)
        rw [← hw2] at hX hR2 hB2 ⊢
        clear hw2 hR hB e1 e2 e3
        generalize wr.heap.size = gx at *
        have x1' := hX.cell 0; simp at x1'
        have x3' := hX.cell 2; simp at x3'
        have HR := Lib.hid hR2; have HBB := Lib.hid hB2; clear hR2 hB2 hX
        go_wp2_with (at_builtin; refine Kd.R_append k31 (w0 := w) w.heap.size rfl (.tmp 17) (.tmp 23) 23 31 (.agg #[.int .i64 0, .int .i64 0]) 16 rfl Try.underlying23 info31 rfl (by decide) (by decide) _ (allL (l.take k)) ⟨x1, x3⟩ [.int .i64 x1, .int .i64 x3] (fun _ => True) (fun _ => False) rfl rfl (k31_mkM _ _ _ _) (fun _ q => q.elim) (fun _ _ => trivial) HR.out HBB.out HBB.out.size (by omega) ?_; intro v1 w1 hR1 hB1 _ _; have HR1 := Lib.hid hR1; have HB1 := Lib.hid hB1; clear hR1 hB1)
        go_roundw
        case rel => exact ⟨k + 1, by omega, by go_num, by rw [ST.out]; exact HR1.out, HB1.out⟩
        case measure => simp [intOf]; omega
      · obtain rfl : k = l.length := by omega
        have E : Hid (allL (l.take l.length) = allL l) := by unfold Hid; rw [List.take_of_length_le (Nat.le_refl _)]
        have HR := Lib.hid hR; have HBB := Lib.hid hB; clear hR hB
        go_wp2
        go_ret
        rw [← E.out]
        exact ⟨_, rfl, HR.out, Fr.of_below HBB.out⟩

theorem info81 : (Try.prog.info? 81).map (fun i => (i.zero, i.size, i.bytes)) = some (some (.agg #[.int .i64 0, .int .i64 0, .int .i64 0]), 3, 24) := by kernel_rfl

/-- The cells of objects. -/
def newL (ks ts ns : Nat → Int) : Nat → List (Int × Int × Int)
  | 0 => []
  | k + 1 => if ks k = 7 then newL ks ts ns k ++ [((k : Int), ns k, low (ts k))] else newL ks ts ns k
theorem newL_len (ks ts ns : Nat → Int) : ∀ k, (newL ks ts ns k).length ≤ k
  | 0 => by simp [newL]
  | k + 1 => by
    have := newL_len ks ts ns k
    simp only [newL]
    split
    · simp; omega
    · omega

def NewRel (w : World) (ks ts ns : Nat → Int) (len : Nat) (i : Value) (wr : World) : Prop :=
  ∃ (k : Nat) (v : Value), k ≤ len ∧ i = .int .i64 k ∧ Blk wr w.heap.size #[v] 79 ∧ wr.ownsRow w.heap.size 81 3 v (newL ks ts ns k).length (enc3 (newL ks ts ns k)) ∧ Below w.heap.size w wr

def opD (ks ts ns : Nat → Int) (i j : Nat) : Value := if j = 0 then .int .i64 (ks i) else if j = 1 then .int .i64 (ts i) else .int .i64 (ns i)

theorem TFr.grow {t : TypeId} {base : Nat} {w w' : World} {size n : Nat} {v : Value} {xs : List Value} (ho : w.ownsRow base t size v n xs) (hg : w.grownBy w' v.ownBlock) : TFr t base w w' :=
  Fr.grown (Fr.refl _ _) hg (fun k hk => .inl ⟨(ho.lt k hk).1, own_typed ho k hk⟩)
theorem own_shape {t : TypeId} {base : Nat} {w : World} {size n : Nat} {v : Value} {xs : List Value} (ho : w.ownsRow base t size v (n + 1) xs) : ∃ g cap, v = .slice (some ⟨g, 0, none⟩) (n + 1) cap := by
  rcases ho.2 with ⟨_, h⟩ | ⟨g, cap, cur, e, _⟩
  · omega
  · exact ⟨g, cap, e⟩

set_option maxRecDepth 100000 in
set_option maxHeartbeats 2000000 in
theorem ceNew (w : World) (v : Value) (len : Nat) (hlen : len ≤ 60) (ks ts ns : Nat → Int) (hv : (len = 0 ∧ ∃ a c, v = .slice a 0 c) ∨ ∃ b o cap : Nat, b < w.heap.size ∧ len ≤ 9223372036854775807 ∧ v = .slice (some ⟨b, o, none⟩) len cap ∧ ∀ i j, i < len → j < 3 → w.cell? ⟨b, o + i * 3 + j, none⟩ = some (opD ks ts ns i j)) :
    Calls Try.prog 14 #[v] w fun e w' => e = .returned (.pointer (some ⟨w.heap.size, 0, none⟩)) ∧ CeAt w' w.heap.size w.heap.size (newL ks ts ns len) ∧ Quiet w w' := by
  rcases hv with ⟨rfl, av, acap, rfl⟩ | ⟨b, o, cap, hb, hl, rfl, hc⟩
  · go_enter Try.func14, Try.ntmps14
    go_wp2
    refine wp_loop_rounds 1 ?_; rw [rounds_succ]
    go_wp2
    go_ret
    exact ⟨rfl, ⟨_, Blk.new _ _ _, World.ownsRow_nil _ _ _ _⟩, by (repeat (first | exact Fr.refl _ _ | assumption | (refine Fr.quiet ?_ (by assumption)) | refine Fr.quiet ?_ HF.out | refine Fr.quiet ?_ HF2.out | refine Fr.drew ?_ | refine Fr.drewN ?_ _ | refine Fr.alloc ?_ _ | refine Fr.setCell ?_ (.inr (by simp)) _))⟩
  have HC := Lib.hid hc; clear hc
  go_enter Try.func14, Try.ntmps14
  go_wp2
  go_loopw [10] (fun i wr => NewRel w ks ts ns len i wr) (fun i _ => len - (intOf i).toNat)
  case atStart => exact ⟨0, _, by omega, rfl, Blk.new _ _ _, World.ownsRow_nil _ _ _ _, (Below.refl _ _).alloc (Nat.le_refl _) _⟩
  case round =>
    obtain ⟨k, v, hk, rfl, hB, hO, hQ⟩ := hrel
    by_cases hlt : k < len
    · have hc0 : wr.cell? ⟨b, o + k * 3, none⟩ = some (.int .i64 (ks k)) := by rw [hQ.cell hb]; exact HC.out k 0 hlt (by omega)
      have hc1 : wr.cell? ⟨b, o + k * 3 + 1, none⟩ = some (.int .i64 (ts k)) := by rw [hQ.cell hb]; exact HC.out k 1 hlt (by omega)
      have hc2 : wr.cell? ⟨b, o + k * 3 + 2, none⟩ = some (.int .i64 (ns k)) := by rw [hQ.cell hb]; exact HC.out k 2 hlt (by omega)
      have ST : Hid (newL ks ts ns (k + 1) = if ks k = 7 then newL ks ts ns k ++ [((k : Int), ns k, low (ts k))] else newL ks ts ns k) := rfl
      have hll := newL_len ks ts ns k
      go_upto_region 5 with fail
      obtain ⟨w2, hw2⟩ : ∃ w2, w2 = wr.alloc (.cells #[.int .i64 (ks k), .int .i64 (ts k), .int .i64 (ns k)] 41) := ⟨_, rfl⟩
      have hX := Blk.new wr #[.int .i64 (ks k), .int .i64 (ts k), .int .i64 (ns k)] 41
      have hB2 := hB.alloc (.cells #[.int .i64 (ks k), .int .i64 (ts k), .int .i64 (ns k)] 41)
      have hO2 := hO.alloc (.cells #[.int .i64 (ks k), .int .i64 (ts k), .int .i64 (ns k)] 41)
      have hQ2 := hQ.alloc hQ.size (.cells #[.int .i64 (ks k), .int .i64 (ts k), .int .i64 (ns k)] 41)
      rw [← hw2] at hX hB2 hO2 hQ2 ⊢
      clear hw2 hB hO hQ hc0 hc1 hc2
      generalize wr.heap.size = gx at *
      have x0 := hX.cell 0; simp at x0
      have x1 := hX.cell 1; simp at x1
      have x2 := hX.cell 2; simp at x2
      have hb0 := hB2.cell 0; simp at hb0
      have HB := Lib.hid hB2; have HO := Lib.hid hO2; have HQ := Lib.hid hQ2; have HX := Lib.hid hX; clear hB2 hO2 hQ2 hX
      by_cases h7 : ks k = 7
      · rw [if_pos h7] at ST
        generalize newL ks ts ns k = l at *
        have h7' : (ks k == 7) = true := by simpa using h7
        clear h7
        go_wp2_with fail
        go_region_law (first
          | (go_simp; go_at_call 53; refine (wLow _ _).mono ?_; rintro e w3 ⟨rfl, hf⟩; have hL : Quiet w2 w3 := hf.undrew; have hF1 : TFr 81 w.heap.size w2 w3 := TFr.of_quiet hL; have k0 := hL.cell hb0 (fun q => q); have k2 := hL.cell x2 (fun q => q); have k1 : ∀ o, (w3.alloc o).cell? ⟨w.heap.size, 0, none⟩ = some v := (fun o => by simpa using ((hL.blk HB.out (fun q => q)).alloc o).cell 0))
          | (refine step_append_cells (w0 := w) w.heap.size rfl (.tmp 22) (.tmp 30) 77 81 (.agg #[.int .i64 0, .int .i64 0, .int .i64 0]) 3 24 rfl Try.underlying77 info81 rfl (by decide) (by decide) v l.length (enc3 l) [.int .i64 k, .int .i64 (ns k), .int .i64 (low (ts k))] rfl rfl rfl (by intro u hu; simp at hu; rcases hu with rfl | rfl | rfl <;> rfl) (Fr.owns HO.out hL (fun _ _ q => q)) (HQ.out.trans ((hL.below (fun _ _ q => q)).mono HQ.out.size)) (Nat.le_trans HQ.out.size hL.size) (by omega) ?_; intro v1 w4 ho1 hb1 hg1 hat; have hF2 : TFr 81 w.heap.size w2 w4 := hF1.trans (TFr.grow (Fr.owns HO.out hL (fun _ _ q => q)) hg1); obtain ⟨g1, cap1, rfl⟩ := own_shape ho1; have HO1 := Lib.hid ho1; have HB1 := Lib.hid hb1; clear ho1 hb1 hg1 hat; have HB4 := Lib.hid (hF2.blk HB.out (by decide)); have k3 := HB4.out.cell 0; have k4 := HB4.out.free 0; simp at k3))
        all_goals
          go_wp2_with fail
          go_roundw
          case rel =>
            refine ⟨k + 1, _, by omega, by go_num, by simpa using HB4.out.set 0 _, ?_, HB1.out.setCell (Nat.le_refl _) _⟩
            rw [ST.out, enc3_append]
            have hne := own_ne HO1.out HB4.out (by decide)
            exact by simpa [enc3] using own_setCell HO1.out (fun q => hne q.symm) _
          case measure => simp [intOf]; omega
      · rw [if_neg h7] at ST
        have h7' : (ks k == 7) = false := by simpa using h7
        clear h7
        go_wp2_with fail
        go_roundw
        case rel => exact ⟨k + 1, v, by omega, by go_num, HB.out, by rw [ST.out]; exact HO.out, HQ.out⟩
        case measure => simp [intOf]; omega
    · obtain rfl : k = len := by omega
      have HB := Lib.hid hB; have HO := Lib.hid hO; have HQ := Lib.hid hQ
      clear hB hO hQ
      go_wp2
      go_ret
      exact ⟨rfl, ⟨_, HB.out, HO.out⟩, Fr.of_below HQ.out⟩

end Go.Proofs.Ytcmfbkajafbjnaa
