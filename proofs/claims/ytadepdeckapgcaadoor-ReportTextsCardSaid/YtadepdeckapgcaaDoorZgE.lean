/- LawReportTexts, part 5: what the proof stands on (merged by wip/shake.py out of the session's texts and of what the print wrote for this claim). -/
import Derived.Lib.Hide
import Derived.Test.YtadepdeckapgcaaDoorZgD

section
namespace Go.Proofs.YtadepdeckapgcaaDoor.PRp
open Go.RowKit Go.Proofs.YtadepdeckapgcaaDoor.Orc Go.Proofs.YtadepdeckapgcaaDoorW.PrintWords Go.Proofs.YtadepdeckapgcaaDoorW.PrintLast Go.Proofs.YtadepdeckapgcaaDoorW.PrintMore
attribute [local go_sem] max2_int min2_int max_two min_two max_three min_three max_four min_four
set_option linter.unusedVariables false
set_option linter.unusedSimpArgs false
mutual
def logjamlaw26_Own.l0 : Nat → List (S92) → List (S92) → Int → Option ((List (S92)))
 | 0, _, _, _ => none
 | k + 1, x0, x3, x4 => if x4 < (x0.length : Int) then (logjamlaw26_Own.j1 k x0 x3 x4 (decide (x4 < 70))) else (logjamlaw26_Own.j1 k x0 x3 x4 false)
def logjamlaw26_Own.j1 : Nat → List (S92) → List (S92) → Int → Bool → Option ((List (S92)))
 | 0, _, _, _, _ => none
 | k + 1, x0, x3, x4, x19 => if x19 = true then (if 0 ≤ x4 then (if x4 < (x0.length : Int) then (logjamlaw26_Own.l1 k x0 x3 x4 0 ((rd_T92 x0 x4).f0) ([] : List (List (S96)))) else (none)) else (none)) else (some x3)
def logjamlaw26_Own.l1 : Nat → List (S92) → List (S92) → Int → Int → Bool → List (List (S96)) → Option ((List (S92)))
 | 0, _, _, _, _, _, _ => none
 | k + 1, x0, x3, x4, x6, x169000, x169001 => if 0 ≤ x4 then (if x4 < (x0.length : Int) then (if x6 < (((rd_T92 x0 x4).f1).length : Int) then (logjamlaw26_Own.j3 k x0 x3 x4 x6 (decide (x6 < 6)) x169000 x169001) else (logjamlaw26_Own.j3 k x0 x3 x4 x6 false x169000 x169001)) else (none)) else (none)
def logjamlaw26_Own.j3 : Nat → List (S92) → List (S92) → Int → Int → Bool → Bool → List (List (S96)) → Option ((List (S92)))
 | 0, _, _, _, _, _, _, _ => none
 | k + 1, x0, x3, x4, x6, x39, x169000, x169001 => if x39 = true then (logjamlaw26_Own.l2 k x0 x3 x4 x6 (([] : List (S96))) 0 x169000 x169001) else (if x3.length < 4398046511104 then (logjamlaw26_Own.l0 k x0 (x3 ++ [(⟨x169000, x169001⟩ : S92)]) (wrap64 (x4 + 1))) else (none))
def logjamlaw26_Own.l2 : Nat → List (S92) → List (S92) → Int → Int → List (S96) → Int → Bool → List (List (S96)) → Option ((List (S92)))
 | 0, _, _, _, _, _, _, _, _ => none
 | k + 1, x0, x3, x4, x6, x7, x8, x169000, x169001 => if 0 ≤ x4 then (if x4 < (x0.length : Int) then (if 0 ≤ x6 then (if x6 < (((rd_T92 x0 x4).f1).length : Int) then (if x8 < ((rd_L7 ((rd_T92 x0 x4).f1) x6).length : Int) then (logjamlaw26_Own.j5 k x0 x3 x4 x6 x7 x8 (decide (x8 < 6)) x169000 x169001) else (logjamlaw26_Own.j5 k x0 x3 x4 x6 x7 x8 false x169000 x169001)) else (none)) else (none)) else (none)) else (none)
def logjamlaw26_Own.j5 : Nat → List (S92) → List (S92) → Int → Int → List (S96) → Int → Bool → Bool → List (List (S96)) → Option ((List (S92)))
 | 0, _, _, _, _, _, _, _, _, _ => none
 | k + 1, x0, x3, x4, x6, x7, x8, x57, x169000, x169001 => if x57 = true then (if 0 ≤ x4 then (if x4 < (x0.length : Int) then (if 0 ≤ x6 then (if x6 < (((rd_T92 x0 x4).f1).length : Int) then (if 0 ≤ x8 then (if x8 < ((rd_L7 ((rd_T92 x0 x4).f1) x6).length : Int) then (if (((rd_T96 (rd_L7 ((rd_T92 x0 x4).f1) x6) x8).f1).length : Int) > 70 then (if 70 ≤ (((rd_T96 (rd_L7 ((rd_T92 x0 x4).f1) x6) x8).f1).length : Int) then ((some (((rd_T96 (rd_L7 ((rd_T92 x0 x4).f1) x6) x8).f1).take 70 : List (S108))).bind fun y182 => ((some (([] : List (S108)) : List (S108))).bind fun y186 => (if y186.length + y182.length < 8796093022208 then (if x7.length < 4398046511104 then (logjamlaw26_Own.l2 k x0 x3 x4 x6 (x7 ++ [(⟨(rd_T96 (rd_L7 ((rd_T92 x0 x4).f1) x6) x8).f0, (y186 ++ y182)⟩ : S96)]) (wrap64 (x8 + 1)) x169000 x169001) else (none)) else (none)))) else (none)) else ((some (([] : List (S108)) : List (S108))).bind fun y195 => (if y195.length + ((rd_T96 (rd_L7 ((rd_T92 x0 x4).f1) x6) x8).f1).length < 8796093022208 then (if x7.length < 4398046511104 then (logjamlaw26_Own.l2 k x0 x3 x4 x6 (x7 ++ [(⟨(rd_T96 (rd_L7 ((rd_T92 x0 x4).f1) x6) x8).f0, (y195 ++ ((rd_T96 (rd_L7 ((rd_T92 x0 x4).f1) x6) x8).f1))⟩ : S96)]) (wrap64 (x8 + 1)) x169000 x169001) else (none)) else (none)))) else (none)) else (none)) else (none)) else (none)) else (none)) else (none)) else (if x169001.length < 5864062014805 then (logjamlaw26_Own.l1 k x0 x3 x4 (wrap64 (x6 + 1)) x169000 (x169001 ++ [x7])) else (none))
end
def logjamlaw26_Own.f (k : Nat) (l0 : List (S92)) : Option ((List (S92))) := logjamlaw26_Own.l0 k l0 (([] : List (S92))) 0
def logjamlaw26_Own.T17 : Bool × List (List Nat × List Nat) := (true, [([], []), ([], []), ([1], [1]), ([], []), ([], []), ([3, 4], [3, 4]), ([2, 5], [2, 5]), ([6], [6]), ([0, 7, 5], [0, 7]), ([8, 8, 0, 1, 2, 3, 4, 5, 6, 7, 8], [0, 8])])
def logjamlaw26_Own.B17 : List Nat := [0, 0, 2, 0, 0, 24, 62, 126, 255, 511]
theorem logjamlaw26_Own.tab17 : rtab .any (opsOf Tryd.f14 17) = logjamlaw26_Own.T17 := by kernel_rfl
theorem logjamlaw26_Own.bits17 : waitsOk logjamlaw26_Own.T17.2 logjamlaw26_Own.B17 = true := by kernel_rfl
set_option maxHeartbeats 8000000 in
set_option maxRecDepth 100000 in
theorem logjamlaw26_Own.calls (k : Nat) (A0 : Option Addr) (c0 : Nat) (l0 : List (S92)) (r : List (S92)) (w : World) (hr0 : Kd.C k92 w A0 l0.length l0) (hc0 : l0.length ≤ c0) (h : logjamlaw26_Own.f k l0 = some r) :
  Calls Tryd.prog 14 #[.slice A0 l0.length c0] w fun e w' => ∃ v0_ : Value, e = .returned (v0_) ∧ Kd.R k92 92 w' w.heap.size (fun _ => True) v0_ r ∧ Below w.heap.size w w' := by
 have hu92 := Tryd.underlying92
 have hu96 := Tryd.underlying96
 have HR0 := Aside0.mk hr0
 have HC0 := Aside0.mk hc0
 clear hr0 hc0
 have HB := Aside0.mk (Below.refl w.heap.size w)
 have H : (logjamlaw26_Own.l0 k l0 (([] : List (S92))) 0) = some r := h
 clear h
 obtain ⟨y164, hy164⟩ : ∃ y_ : List (S92), y_ = (([] : List (S92))) := ⟨_, rfl⟩
 replace H : (logjamlaw26_Own.l0 k l0 y164 0) = some r := by first | (rw [hy164]; with_reducible exact H) | (have H2_ := (Option.bind_some _ _).symm.trans H; rw [hy164]; with_reducible exact H2_) | (have H2_ := (Option.bind_some _ _).symm.trans H; with_reducible exact H2_) | with_reducible exact H | (rw [hy164]; exact H) | exact H
 have Ny164 := Aside0.mk hy164
 clear hy164
 have H' := Aside0.mk H
 clear H
 go_enter Tryd.func14, Tryd.ntmps14
 go_wp2_with (first | ((with_reducible refine gate_dst (N := 11) rfl ?_); refine Kd.R_lit k92 _ 92 ?hg (N := 11) ?hd (xs := ([] : List (S92))) (inner := []) (ok := fun _ => True) (okp := fun _ => True) ?hr ?hp (fun _ hk => hk) trivial (Below.refl _ _) (Nat.le_refl _) (by simp) ?_; (case hd => rfl); (case hg => rfl); (case hr => first | (go_simp; done) | (go_simp; rfl)); (case hp => exact (Reps.none _ _)); intro v165 w2 ho3 hb hg_ hnew_; clear hg_ hnew_; (first | rw [← Ny164.out] at ho3 | (simp only [Int.reduceToNat] at ho3; rw [← Ny164.out] at ho3)); have n0_ := Aside0.mk (Kd.R_lower ho3 (below_size (by repeat (first | (with_reducible first | exact HB.out | apply below_alloc | apply pw_below_drewN | apply below_drew1) | exact HB.out)))); have n1_ := Aside0.mk (below_step (by repeat (first | (with_reducible first | exact HB.out | apply below_alloc | apply pw_below_drewN | apply below_drew1) | exact HB.out)) hb); clear HB; have HO166 := n0_; have HB := n1_; clear n0_ n1_; clear hb ho3))
 go_loopg [3, 4] k (fun kq v3 v4 w' => ∃ (x3_1 : List (S92)) (x4_1 : Int), v4 = .int .i64 x4_1 ∧ Aside0 (logjamlaw26_Own.l0 kq l0 x3_1 x4_1 = some r) ∧ Aside0 (kq ≤ k) ∧ Aside0 (Kd.R k92 92 w' w.heap.size (fun _ => True) v3 x3_1) ∧ Aside0 (Below w.heap.size w w'))
 case atStart => exact ⟨(y164), (0), (by first | rfl | (simp; done) | (simp only [emptyNe_, emptyEq_]; done) | (simp [*]; done)), H', ⟨Nat.le_refl _⟩, ⟨by (with_reducible repeat (first | apply Kd.R_alloc | apply Kd.R_drewN | apply Kd.R_drew)); exact HO166.out⟩, ⟨by repeat (first | (with_reducible first | exact HB.out | apply below_alloc | apply pw_below_drewN | apply below_drew1) | exact HB.out)⟩⟩
 case round =>
  clear H'; try clear c1; try clear p2
  obtain ⟨x3_1, x4_1, rfl, HA, HK1, HO_3, HB⟩ := hrel
  cases gk with
  | zero => exact absurd HA.out (by simp [logjamlaw26_Own.l0])
  | succ k1 =>
   have H := HA.out
   clear HA
   simp only [logjamlaw26_Own.l0] at H
   have HC4 := Aside0.mk H
   clear H
   go_upto_region 3 with (fail)
   go_cut [19] (fun v19 wc => ∃ (kq : Nat) (x19_3 : Bool), v19 = .bool x19_3 ∧ Aside0 (logjamlaw26_Own.j1 kq l0 x3_1 x4_1 x19_3 = some r) ∧ Aside0 (kq ≤ k1) ∧ Aside0 (Kd.R k92 92 wc w.heap.size (fun _ => True) u3 x3_1) ∧ Aside0 (Below w.heap.size w wc))
   case first =>
    have H := HC4.out
    clear HC4
    by_cases c5 : x4_1 < (l0.length : Int)
    ·rw [if_pos c5] at H
     have c5b0 : decide (x4_1 < (l0.length : Int)) = true := decide_eq_true c5
     clear c5
     (first | rw [c5b0] | (simp only [i64_w, i32_w]; rw [c5b0]) | skip)
     have H' := Aside0.mk H
     clear H
     go_wp2
     go_meet
     case rel => exact ⟨_, (decide (x4_1 < 70)), (by first | rfl | (simp; done) | (simp only [emptyNe_, emptyEq_]; done) | (simp [*]; done)), H', ⟨by have := HK1.out; first | omega | exact Nat.le_refl _⟩, ⟨by (with_reducible repeat (first | apply Kd.R_alloc | apply Kd.R_drewN | apply Kd.R_drew)); exact HO_3.out⟩, ⟨by repeat (first | (with_reducible first | exact HB.out | apply below_alloc | apply pw_below_drewN | apply below_drew1) | exact HB.out)⟩⟩
    ·rw [if_neg c5] at H
     have c5b0 : decide (x4_1 < (l0.length : Int)) = false := decide_eq_false c5
     clear c5
     (first | rw [c5b0] | (simp only [i64_w, i32_w]; rw [c5b0]) | skip)
     have H' := Aside0.mk H
     clear H
     go_wp2
     go_meet
     case rel => exact ⟨_, (false), (by first | rfl | (simp; done) | (simp only [emptyNe_, emptyEq_]; done) | (simp [*]; done)), H', ⟨by have := HK1.out; first | omega | exact Nat.le_refl _⟩, ⟨by (with_reducible repeat (first | apply Kd.R_alloc | apply Kd.R_drewN | apply Kd.R_drew)); exact HO_3.out⟩, ⟨by repeat (first | (with_reducible first | exact HB.out | apply below_alloc | apply pw_below_drewN | apply below_drew1) | exact HB.out)⟩⟩
   case rest =>
    clear HC4; try clear c1; try clear p2; try clear c5; try clear c5b0; try clear p2
    obtain ⟨kq, x19_3, rfl, HA, HJ3, HO_3, HB⟩ := hcut
    cases kq with
    | zero => exact absurd HA.out (by simp [logjamlaw26_Own.j1])
    | succ kj3 =>
     have H := HA.out
     clear HA
     simp only [logjamlaw26_Own.j1] at H
     by_cases c6 : x19_3 = true
     ·subst c6
      have H1 : (if 0 ≤ x4_1 then (if x4_1 < (l0.length : Int) then (logjamlaw26_Own.l1 kj3 l0 x3_1 x4_1 0 ((rd_T92 l0 x4_1).f0) ([] : List (List (S96)))) else (none)) else (none)) = some r := by rw [if_pos rfl] at H; exact H
      clear H
      have H := H1
      clear H1
      by_cases c7 : 0 ≤ x4_1
      ·rw [if_pos c7] at H
       have c7b0 : decide (0 ≤ x4_1) = true := decide_eq_true c7
       clear c7
       by_cases c8 : x4_1 < (l0.length : Int)
       ·rw [if_pos c8] at H
        have c8b0 : decide (x4_1 < (l0.length : Int)) = true := decide_eq_true c8
        clear c8
        have H' := Aside0.mk H
        clear H
        have p167 : 0 ≤ (x4_1 : Int) := of_decide_eq_true (by first | (with_reducible assumption) | assumption)
        have q167 : x4_1 < (l0.length : Int) := of_decide_eq_true (by first | (with_reducible assumption) | assumption)
        obtain ⟨ad167, A167_1, c167_1, e167, hx167_0, hx167_1, hl167_1, hi167_1⟩ := at_T92 HR0.out x4_1 p167 q167
        cases e167
        replace hx167_0 := (HB.out.cell (World.block_lt_of_cell? w _ hx167_0)).trans hx167_0
        replace hx167_1 := (HB.out.cell (World.block_lt_of_cell? w _ hx167_1)).trans hx167_1
        have HR167_1 := Aside0.mk hi167_1
        have HC167_1 := Aside0.mk hl167_1
        clear hi167_1 hl167_1
        replace p167 := eq_true p167
        replace q167 := eq_true q167
        go_wp2_with (first | ((with_reducible refine gate_dst (N := 5) rfl ?_); refine box_event ?hg (N := 5) ?hd (cs := #[.bool false, .slice none 0 0]) (t := 92) ?hr ?_; (case hd => rfl); (case hg => rfl); (case hr => first | (go_simp; done) | (go_simp; rfl)); intro gb168 hg w9 hbox hb; have n0_ := Aside0.mk (Kd.R_below (Kd.R_elderB (by (with_reducible repeat (first | apply Kd.R_alloc | apply Kd.R_drewN | apply Kd.R_drew)); exact HO_3.out) gb168 (Nat.le_of_eq hg.symm)) hb); have n1_ := Aside0.mk (below_step (by repeat (first | (with_reducible first | exact HB.out | apply below_alloc | apply pw_below_drewN | apply below_drew1) | exact HB.out)) hb); have n2_ := Aside0.mk (hbox); have n3_ := Aside0.mk ((by rw [hg]; exact (below_size (by repeat (first | (with_reducible first | exact HB.out | apply below_alloc | apply pw_below_drewN | apply below_drew1) | exact HB.out))) : w.heap.size ≤ gb168)); have n4_ := Aside0.mk ((by rw [hg]; exact (below_size (by repeat (first | (with_reducible first | exact HB.out | apply below_alloc | apply pw_below_drewN | apply below_drew1) | exact HB.out))) : w.heap.size ≤ gb168)); clear HO_3; clear HB; have HO_3 := n0_; have HB := n1_; have BK168 := n2_; have GW168 := n3_; have GE168 := n4_; clear n0_ n1_ n2_ n3_ n4_; clear hb hbox hg; have hcz10_0 : w9.cell? ⟨gb168, 0, none⟩ = some (.bool false) := (blk_cell BK168.out 0).trans rfl; have hcz10_1 : w9.cell? ⟨gb168, 1, none⟩ = some (.slice none 0 0) := (blk_cell BK168.out 1).trans rfl; have hfz10_0 := blk_frozen BK168.out 0; have hfz10_1 := blk_frozen BK168.out 1))
        go_loopg [6] kj3 (fun kq v6 w' => ∃ (x6_3 : Int) (x169001_3 : List (List (S96))) (u169001 : Value), v6 = .int .i64 x6_3 ∧ Aside0 (logjamlaw26_Own.l1 kq l0 x3_1 x4_1 x6_3 ((rd_T92 l0 x4_1).f0) x169001_3 = some r) ∧ Aside0 (kq ≤ kj3) ∧ Aside0 (Kd.R k92 92 w' w.heap.size (fun k_ => some k_ ≠ (u169001 : Value).ownBlock ∧ k_ ≠ gb168) u3 x3_1) ∧ Aside0 (Kd.R (Kd.slice 96 k96) 93 w' w.heap.size (fun _ => True) u169001 x169001_3) ∧ Aside0 (w'.heap[gb168]? = some (.cells #[.bool ((rd_T92 l0 x4_1).f0), u169001] 92 (0, 0))) ∧ Aside0 (Below w.heap.size w w'))
        case atStart => exact ⟨(0), (([] : List (List (S96)))), (.slice none 0 0), (by first | rfl | (simp; done) | (simp only [emptyNe_, emptyEq_]; done) | (simp [*]; done)), H', ⟨Nat.le_refl _⟩, ⟨by (with_reducible repeat (first | apply Kd.R_alloc | apply Kd.R_drewN | apply Kd.R_drew)); exact Kd.R_mono (Kd.R_far (p := ⟨gb168, 1, none⟩) (Kd.R_far (p := ⟨gb168, 0, none⟩) (Kd.R_mono HO_3.out (fun k_ hk => (⟨hk, hk.2⟩ : _ ∧ k_ ≠ gb168))) (fun _ hk => hk.2) (.bool ((rd_T92 l0 x4_1).f0))) (fun _ hk => hk.2) (.slice none 0 0)) (fun _ hk => ⟨(by simp [Value.ownBlock]), hk.1.2⟩)⟩, ⟨by first | exact Kd.R_nil _ _ _ _ _ | exact Kd.N_nil _ _ _ _ _ | exact Kd.V_nil _ _ _ _ _ | exact Kd.Q_nil _ _ _ _ _ | exact Kd.S_nil _ _ _ _ _⟩, ⟨by (with_reducible repeat (first | refine blk_drewN ?_ _ | refine blk_drew ?_ | refine blk_alloc ?_ _)); refine blk_put (cs := #[.bool ((rd_T92 l0 x4_1).f0), .slice none 0 0]) ?_ 1 _ rfl; (with_reducible repeat (first | refine blk_drewN ?_ _ | refine blk_drew ?_ | refine blk_alloc ?_ _)); refine blk_put (cs := #[.bool false, .slice none 0 0]) ?_ 0 _ rfl; (with_reducible repeat (first | refine blk_drewN ?_ _ | refine blk_drew ?_ | refine blk_alloc ?_ _)); exact BK168.out⟩, ⟨by repeat (first | (with_reducible first | exact HB.out | apply below_alloc | apply pw_below_drewN | apply below_drew1 | refine below_set ?_ GE168.out) | exact HB.out)⟩⟩
        case round =>
         clear H'; try clear c1; try clear p1; try clear q1; try clear hx1; try clear p2; try clear c5; try clear c5b0; try clear c6; try clear c7; try clear c7b0; try clear c8; try clear c8b0; try clear hcz10_0; try clear hcz10_1; try clear hfz10_0; try clear hfz10_1; try clear hx167_0; try clear hx167_1; try clear p167; try clear p2; try clear q167
         obtain ⟨x6_3, x169001_3, u169001, rfl, HA, HK3, HO_3, HO_169001, BK168, HB⟩ := hrel
         cases gk with
         | zero => exact absurd HA.out (by simp [logjamlaw26_Own.l1])
         | succ k3 =>
          have H := HA.out
          clear HA
          simp only [logjamlaw26_Own.l1] at H
          have HC11 := Aside0.mk H
          clear H
          go_upto_region 7 with (fail)
          go_cut [39] (fun v39 wc => ∃ (kq : Nat) (x39_10 : Bool), v39 = .bool x39_10 ∧ Aside0 (logjamlaw26_Own.j3 kq l0 x3_1 x4_1 x6_3 x39_10 ((rd_T92 l0 x4_1).f0) x169001_3 = some r) ∧ Aside0 (kq ≤ k3) ∧ Aside0 (Kd.R k92 92 wc w.heap.size (fun k_ => some k_ ≠ (u169001 : Value).ownBlock ∧ k_ ≠ gb168) u3 x3_1) ∧ Aside0 (Kd.R (Kd.slice 96 k96) 93 wc w.heap.size (fun _ => True) u169001 x169001_3) ∧ Aside0 (wc.heap[gb168]? = some (.cells #[.bool ((rd_T92 l0 x4_1).f0), u169001] 92 (0, 0))) ∧ Aside0 (Below w.heap.size w wc))
          case first =>
           have H := HC11.out
           clear HC11
           by_cases c12 : 0 ≤ x4_1
           ·rw [if_pos c12] at H
            have c12b0 : decide (0 ≤ x4_1) = true := decide_eq_true c12
            clear c12
            (first | rw [c12b0] | (simp only [i64_w, i32_w]; rw [c12b0]) | skip)
            by_cases c13 : x4_1 < (l0.length : Int)
            ·rw [if_pos c13] at H
             have c13b0 : decide (x4_1 < (l0.length : Int)) = true := decide_eq_true c13
             clear c13
             by_cases c14 : x6_3 < (((rd_T92 l0 x4_1).f1).length : Int)
             ·rw [if_pos c14] at H
              have c14b0 : decide (x6_3 < (((rd_T92 l0 x4_1).f1).length : Int)) = true := decide_eq_true c14
              clear c14
              have H' := Aside0.mk H
              clear H
              have p169 : 0 ≤ (x4_1 : Int) := of_decide_eq_true (by first | (with_reducible assumption) | assumption)
              have q169 : x4_1 < (l0.length : Int) := of_decide_eq_true (by first | (with_reducible assumption) | assumption)
              obtain ⟨ad169, A169_1, c169_1, e169, hx169_0, hx169_1, hl169_1, hi169_1⟩ := at_T92 HR0.out x4_1 p169 q169
              obtain rfl : ad167 = ad169 := (by injection e169)
              replace hx169_0 := (HB.out.cell (World.block_lt_of_cell? w _ hx169_0)).trans hx169_0
              replace hx169_1 := (HB.out.cell (World.block_lt_of_cell? w _ hx169_1)).trans hx169_1
              have HR169_1 := Aside0.mk hi169_1
              have HC169_1 := Aside0.mk hl169_1
              clear hi169_1 hl169_1
              replace p169 := eq_true p169
              replace q169 := eq_true q169
              go_wp2
              go_meet
              case rel => exact ⟨_, (decide (x6_3 < 6)), (by first | rfl | (simp; done) | (simp only [emptyNe_, emptyEq_]; done) | (simp [*]; done)), H', ⟨by have := HK1.out; have := HJ3.out; have := HK3.out; first | omega | exact Nat.le_refl _⟩, ⟨by (with_reducible repeat (first | apply Kd.R_alloc | apply Kd.R_drewN | apply Kd.R_drew)); exact HO_3.out⟩, ⟨by (with_reducible repeat (first | apply Kd.R_alloc | apply Kd.R_drewN | apply Kd.R_drew)); exact HO_169001.out⟩, ⟨by (with_reducible repeat (first | refine blk_drewN ?_ _ | refine blk_drew ?_ | refine blk_alloc ?_ _)); exact BK168.out⟩, ⟨by repeat (first | (with_reducible first | exact HB.out | apply below_alloc | apply pw_below_drewN | apply below_drew1 | refine below_set ?_ GE168.out) | exact HB.out)⟩⟩
             ·rw [if_neg c14] at H
              have c14b0 : decide (x6_3 < (((rd_T92 l0 x4_1).f1).length : Int)) = false := decide_eq_false c14
              clear c14
              have H' := Aside0.mk H
              clear H
              have p169 : 0 ≤ (x4_1 : Int) := of_decide_eq_true (by first | (with_reducible assumption) | assumption)
              have q169 : x4_1 < (l0.length : Int) := of_decide_eq_true (by first | (with_reducible assumption) | assumption)
              obtain ⟨ad169, A169_1, c169_1, e169, hx169_0, hx169_1, hl169_1, hi169_1⟩ := at_T92 HR0.out x4_1 p169 q169
              obtain rfl : ad167 = ad169 := (by injection e169)
              replace hx169_0 := (HB.out.cell (World.block_lt_of_cell? w _ hx169_0)).trans hx169_0
              replace hx169_1 := (HB.out.cell (World.block_lt_of_cell? w _ hx169_1)).trans hx169_1
              have HR169_1 := Aside0.mk hi169_1
              have HC169_1 := Aside0.mk hl169_1
              clear hi169_1 hl169_1
              replace p169 := eq_true p169
              replace q169 := eq_true q169
              go_wp2
              go_meet
              case rel => exact ⟨_, (false), (by first | rfl | (simp; done) | (simp only [emptyNe_, emptyEq_]; done) | (simp [*]; done)), H', ⟨by have := HK1.out; have := HJ3.out; have := HK3.out; first | omega | exact Nat.le_refl _⟩, ⟨by (with_reducible repeat (first | apply Kd.R_alloc | apply Kd.R_drewN | apply Kd.R_drew)); exact HO_3.out⟩, ⟨by (with_reducible repeat (first | apply Kd.R_alloc | apply Kd.R_drewN | apply Kd.R_drew)); exact HO_169001.out⟩, ⟨by (with_reducible repeat (first | refine blk_drewN ?_ _ | refine blk_drew ?_ | refine blk_alloc ?_ _)); exact BK168.out⟩, ⟨by repeat (first | (with_reducible first | exact HB.out | apply below_alloc | apply pw_below_drewN | apply below_drew1 | refine below_set ?_ GE168.out) | exact HB.out)⟩⟩
            ·rw [if_neg c13] at H
             exact absurd H (by simp)
           ·rw [if_neg c12] at H
            exact absurd H (by simp)
          case rest =>
           clear HC11; try clear c1; try clear p1; try clear q1; try clear hx1; try clear p2; try clear c5; try clear c5b0; try clear c6; try clear c7; try clear c7b0; try clear c8; try clear c8b0; try clear c12; try clear c12b0; try clear c13; try clear c13b0; try clear c14; try clear c14b0; try clear hcz10_0; try clear hcz10_1; try clear hfz10_0; try clear hfz10_1; try clear hx167_0; try clear hx167_1; try clear hx169_0; try clear hx169_1; try clear p1; try clear p167; try clear p169; try clear p2; try clear q1; try clear q167; try clear q169
           obtain ⟨kq, x39_10, rfl, HA, HJ10, HO_3, HO_169001, BK168, HB⟩ := hcut
           cases kq with
           | zero => exact absurd HA.out (by simp [logjamlaw26_Own.j3])
           | succ kj10 =>
            have H := HA.out
            clear HA
            simp only [logjamlaw26_Own.j3] at H
            by_cases c15 : x39_10 = true
            ·subst c15
             have H1 : (logjamlaw26_Own.l2 kj10 l0 x3_1 x4_1 x6_3 (([] : List (S96))) 0 ((rd_T92 l0 x4_1).f0) x169001_3) = some r := by rw [if_pos rfl] at H; exact H
             clear H
             have H := H1
             clear H1
             obtain ⟨y173, hy173⟩ : ∃ y_ : List (S96), y_ = (([] : List (S96))) := ⟨_, rfl⟩
             replace H : (logjamlaw26_Own.l2 kj10 l0 x3_1 x4_1 x6_3 y173 0 ((rd_T92 l0 x4_1).f0) x169001_3) = some r := by first | (rw [hy173]; with_reducible exact H) | (have H2_ := (Option.bind_some _ _).symm.trans H; rw [hy173]; with_reducible exact H2_) | (have H2_ := (Option.bind_some _ _).symm.trans H; with_reducible exact H2_) | with_reducible exact H | (rw [hy173]; exact H) | exact H
             have Ny173 := Aside0.mk hy173
             clear hy173
             have H' := Aside0.mk H
             clear H
             go_wp2_with (first | ((with_reducible refine gate_dst (N := 42) rfl ?_); refine Kd.S_lit k96 _ 96 ?hg (N := 42) ?hd (xs := ([] : List (S96))) (inner := []) (ok := fun _ => True) (okp := fun _ => True) ?hr ?hp (fun _ hk => hk) trivial (Below.refl _ _) (Nat.le_refl _) (by simp) ?_; (case hd => rfl); (case hg => rfl); (case hr => first | (go_simp; done) | (go_simp; rfl)); (case hp => exact (Reps.none _ _)); intro v174 w16 ho17 hb hg_ hnew_; clear hg_ hnew_; (first | rw [← Ny173.out] at ho17 | (simp only [Int.reduceToNat] at ho17; rw [← Ny173.out] at ho17)); have n0_ := Aside0.mk (Kd.R_elder' (by (with_reducible repeat (first | apply Kd.R_alloc | apply Kd.R_drewN | apply Kd.R_drew)); exact HO_3.out) (Kd.S_base ho17) hb); have n1_ := Aside0.mk (Kd.R_elder' (by (with_reducible repeat (first | apply Kd.R_alloc | apply Kd.R_drewN | apply Kd.R_drew)); exact HO_169001.out) (Kd.S_base ho17) hb); have n2_ := Aside0.mk (Kd.S_lower ho17 (below_size (by repeat (first | (with_reducible first | exact HB.out | apply below_alloc | apply pw_below_drewN | apply below_drew1 | refine below_set ?_ GE168.out) | exact HB.out)))); have n3_ := Aside0.mk (blk_below (g := gb168) (o := .cells #[.bool ((rd_T92 l0 x4_1).f0), u169001] 92 (0, 0)) (by (with_reducible repeat (first | refine blk_drewN ?_ _ | refine blk_drew ?_ | refine blk_alloc ?_ _)); exact BK168.out) hb); have n4_ := Aside0.mk (below_step (by repeat (first | (with_reducible first | exact HB.out | apply below_alloc | apply pw_below_drewN | apply below_drew1 | refine below_set ?_ GE168.out) | exact HB.out)) hb); clear HO_3; clear HO_169001; clear BK168; clear HB; have HO_3 := n0_; have HO_169001 := n1_; have HO175 := n2_; have BK168 := n3_; have HB := n4_; clear n0_ n1_ n2_ n3_ n4_; clear hb ho17))
             go_loopg [7, 8] kj10 (fun kq v7 v8 w' => ∃ (x7_5 : List (S96)) (x8_5 : Int), v8 = .int .i64 x8_5 ∧ Aside0 (logjamlaw26_Own.l2 kq l0 x3_1 x4_1 x6_3 x7_5 x8_5 ((rd_T92 l0 x4_1).f0) x169001_3 = some r) ∧ Aside0 (kq ≤ kj10) ∧ Aside0 (Kd.R k92 92 w' w.heap.size (fun k_ => some k_ ≠ (v7 : Value).ownBlock ∧ some k_ ≠ (u169001 : Value).ownBlock ∧ k_ ≠ gb168) u3 x3_1) ∧ Aside0 (Kd.S k96 96 w' w.heap.size (fun _ => True) v7 x7_5) ∧ Aside0 (Kd.R (Kd.slice 96 k96) 93 w' w.heap.size (fun k_ => some k_ ≠ (v7 : Value).ownBlock) u169001 x169001_3) ∧ Aside0 (w'.heap[gb168]? = some (.cells #[.bool ((rd_T92 l0 x4_1).f0), u169001] 92 (0, 0))) ∧ Aside0 (Below w.heap.size w w'))
             case atStart => exact ⟨(y173), (0), (by first | rfl | (simp; done) | (simp only [emptyNe_, emptyEq_]; done) | (simp [*]; done)), H', ⟨Nat.le_refl _⟩, ⟨by (with_reducible repeat (first | apply Kd.R_alloc | apply Kd.R_drewN | apply Kd.R_drew)); exact Kd.R_mono HO_3.out (fun _ hk => ⟨hk.2, ⟨hk.1.1, hk.1.2⟩⟩)⟩, ⟨by (with_reducible repeat (first | apply Kd.S_alloc | apply Kd.S_drewN | apply Kd.S_drew)); exact HO175.out⟩, ⟨by (with_reducible repeat (first | apply Kd.R_alloc | apply Kd.R_drewN | apply Kd.R_drew)); exact Kd.R_mono HO_169001.out (fun _ hk => hk.2)⟩, ⟨by (with_reducible repeat (first | refine blk_drewN ?_ _ | refine blk_drew ?_ | refine blk_alloc ?_ _)); exact BK168.out⟩, ⟨by repeat (first | (with_reducible first | exact HB.out | apply below_alloc | apply pw_below_drewN | apply below_drew1 | refine below_set ?_ GE168.out) | exact HB.out)⟩⟩
             case round =>
              clear H'; try clear c1; try clear p1; try clear q1; try clear hx1; try clear p2; try clear c5; try clear c5b0; try clear c6; try clear c7; try clear c7b0; try clear c8; try clear c8b0; try clear c12; try clear c12b0; try clear c13; try clear c13b0; try clear c14; try clear c14b0; try clear c15; try clear c16; try clear p16; try clear q16; try clear hx16; try clear hcz10_0; try clear hcz10_1; try clear hfz10_0; try clear hfz10_1; try clear hx167_0; try clear hx167_1; try clear hx169_0; try clear hx169_1; try clear p1; try clear p167; try clear p169; try clear p2; try clear q1; try clear q167; try clear q169
              obtain ⟨x7_5, x8_5, rfl, HA, HK5, HO_3, HO_7, HO_169001, BK168, HB⟩ := hrel
              cases gk with
              | zero => exact absurd HA.out (by simp [logjamlaw26_Own.l2])
              | succ k5 =>
               have H := HA.out
               clear HA
               simp only [logjamlaw26_Own.l2] at H
               have HC18 := Aside0.mk H
               clear H
               go_upto_region 11 with (fail)
               go_cut [57] (fun v57 wc => ∃ (kq : Nat) (x57_17 : Bool), v57 = .bool x57_17 ∧ Aside0 (logjamlaw26_Own.j5 kq l0 x3_1 x4_1 x6_3 x7_5 x8_5 x57_17 ((rd_T92 l0 x4_1).f0) x169001_3 = some r) ∧ Aside0 (kq ≤ k5) ∧ Aside0 (Kd.R k92 92 wc w.heap.size (fun k_ => some k_ ≠ (u7 : Value).ownBlock ∧ some k_ ≠ (u169001 : Value).ownBlock ∧ k_ ≠ gb168) u3 x3_1) ∧ Aside0 (Kd.S k96 96 wc w.heap.size (fun _ => True) u7 x7_5) ∧ Aside0 (Kd.R (Kd.slice 96 k96) 93 wc w.heap.size (fun k_ => some k_ ≠ (u7 : Value).ownBlock) u169001 x169001_3) ∧ Aside0 (wc.heap[gb168]? = some (.cells #[.bool ((rd_T92 l0 x4_1).f0), u169001] 92 (0, 0))) ∧ Aside0 (Below w.heap.size w wc))
               case first =>
                have H := HC18.out
                clear HC18
                by_cases c19 : 0 ≤ x4_1
                ·rw [if_pos c19] at H
                 have c19b0 : decide (0 ≤ x4_1) = true := decide_eq_true c19
                 clear c19
                 (first | rw [c19b0] | (simp only [i64_w, i32_w]; rw [c19b0]) | skip)
                 by_cases c20 : x4_1 < (l0.length : Int)
                 ·rw [if_pos c20] at H
                  have c20b0 : decide (x4_1 < (l0.length : Int)) = true := decide_eq_true c20
                  clear c20
                  by_cases c21 : 0 ≤ x6_3
                  ·rw [if_pos c21] at H
                   have c21b0 : decide (0 ≤ x6_3) = true := decide_eq_true c21
                   clear c21
                   by_cases c22 : x6_3 < (((rd_T92 l0 x4_1).f1).length : Int)
                   ·rw [if_pos c22] at H
                    have c22b0 : decide (x6_3 < (((rd_T92 l0 x4_1).f1).length : Int)) = true := decide_eq_true c22
                    clear c22
                    by_cases c23 : x8_5 < ((rd_L7 ((rd_T92 l0 x4_1).f1) x6_3).length : Int)
                    ·rw [if_pos c23] at H
                     have c23b0 : decide (x8_5 < ((rd_L7 ((rd_T92 l0 x4_1).f1) x6_3).length : Int)) = true := decide_eq_true c23
                     clear c23
                     have H' := Aside0.mk H
                     clear H
                     have p176 : 0 ≤ (x4_1 : Int) := of_decide_eq_true (by first | (with_reducible assumption) | assumption)
                     have q176 : x4_1 < (l0.length : Int) := of_decide_eq_true (by first | (with_reducible assumption) | assumption)
                     obtain ⟨ad176, A176_1, c176_1, e176, hx176_0, hx176_1, hl176_1, hi176_1⟩ := at_T92 HR0.out x4_1 p176 q176
                     obtain rfl : ad167 = ad176 := (by injection e176)
                     replace hx176_0 := (HB.out.cell (World.block_lt_of_cell? w _ hx176_0)).trans hx176_0
                     replace hx176_1 := (HB.out.cell (World.block_lt_of_cell? w _ hx176_1)).trans hx176_1
                     have HR176_1 := Aside0.mk hi176_1
                     have HC176_1 := Aside0.mk hl176_1
                     clear hi176_1 hl176_1
                     replace p176 := eq_true p176
                     replace q176 := eq_true q176
                     have p177 : 0 ≤ (x6_3 : Int) := of_decide_eq_true (by first | (with_reducible assumption) | assumption)
                     have q177 : x6_3 < (((rd_T92 l0 x4_1).f1).length : Int) := of_decide_eq_true (by first | (with_reducible assumption) | assumption)
                     obtain ⟨ad177, A177_0, c177_0, e177, hx177_0, hl177_0, hi177_0⟩ := at_L7 HR176_1.out x6_3 p177 q177
                     cases e177
                     replace hx177_0 := (HB.out.cell (World.block_lt_of_cell? w _ hx177_0)).trans hx177_0
                     have HR177_0 := Aside0.mk hi177_0
                     have HC177_0 := Aside0.mk hl177_0
                     clear hi177_0 hl177_0
                     replace p177 := eq_true p177
                     replace q177 := eq_true q177
                     go_wp2
                     go_meet
                     case rel => exact ⟨_, (decide (x8_5 < 6)), (by first | rfl | (simp; done) | (simp only [emptyNe_, emptyEq_]; done) | (simp [*]; done)), H', ⟨by have := HK1.out; have := HJ3.out; have := HK3.out; have := HJ10.out; have := HK5.out; first | omega | exact Nat.le_refl _⟩, ⟨by (with_reducible repeat (first | apply Kd.R_alloc | apply Kd.R_drewN | apply Kd.R_drew)); exact HO_3.out⟩, ⟨by (with_reducible repeat (first | apply Kd.S_alloc | apply Kd.S_drewN | apply Kd.S_drew)); exact HO_7.out⟩, ⟨by (with_reducible repeat (first | apply Kd.R_alloc | apply Kd.R_drewN | apply Kd.R_drew)); exact HO_169001.out⟩, ⟨by (with_reducible repeat (first | refine blk_drewN ?_ _ | refine blk_drew ?_ | refine blk_alloc ?_ _)); exact BK168.out⟩, ⟨by repeat (first | (with_reducible first | exact HB.out | apply below_alloc | apply pw_below_drewN | apply below_drew1 | refine below_set ?_ GE168.out) | exact HB.out)⟩⟩
                    ·rw [if_neg c23] at H
                     have c23b0 : decide (x8_5 < ((rd_L7 ((rd_T92 l0 x4_1).f1) x6_3).length : Int)) = false := decide_eq_false c23
                     clear c23
                     have H' := Aside0.mk H
                     clear H
                     have p176 : 0 ≤ (x4_1 : Int) := of_decide_eq_true (by first | (with_reducible assumption) | assumption)
                     have q176 : x4_1 < (l0.length : Int) := of_decide_eq_true (by first | (with_reducible assumption) | assumption)
                     obtain ⟨ad176, A176_1, c176_1, e176, hx176_0, hx176_1, hl176_1, hi176_1⟩ := at_T92 HR0.out x4_1 p176 q176
                     obtain rfl : ad167 = ad176 := (by injection e176)
                     replace hx176_0 := (HB.out.cell (World.block_lt_of_cell? w _ hx176_0)).trans hx176_0
                     replace hx176_1 := (HB.out.cell (World.block_lt_of_cell? w _ hx176_1)).trans hx176_1
                     have HR176_1 := Aside0.mk hi176_1
                     have HC176_1 := Aside0.mk hl176_1
                     clear hi176_1 hl176_1
                     replace p176 := eq_true p176
                     replace q176 := eq_true q176
                     have p177 : 0 ≤ (x6_3 : Int) := of_decide_eq_true (by first | (with_reducible assumption) | assumption)
                     have q177 : x6_3 < (((rd_T92 l0 x4_1).f1).length : Int) := of_decide_eq_true (by first | (with_reducible assumption) | assumption)
                     obtain ⟨ad177, A177_0, c177_0, e177, hx177_0, hl177_0, hi177_0⟩ := at_L7 HR176_1.out x6_3 p177 q177
                     cases e177
                     replace hx177_0 := (HB.out.cell (World.block_lt_of_cell? w _ hx177_0)).trans hx177_0
                     have HR177_0 := Aside0.mk hi177_0
                     have HC177_0 := Aside0.mk hl177_0
                     clear hi177_0 hl177_0
                     replace p177 := eq_true p177
                     replace q177 := eq_true q177
                     go_wp2
                     go_meet
                     case rel => exact ⟨_, (false), (by first | rfl | (simp; done) | (simp only [emptyNe_, emptyEq_]; done) | (simp [*]; done)), H', ⟨by have := HK1.out; have := HJ3.out; have := HK3.out; have := HJ10.out; have := HK5.out; first | omega | exact Nat.le_refl _⟩, ⟨by (with_reducible repeat (first | apply Kd.R_alloc | apply Kd.R_drewN | apply Kd.R_drew)); exact HO_3.out⟩, ⟨by (with_reducible repeat (first | apply Kd.S_alloc | apply Kd.S_drewN | apply Kd.S_drew)); exact HO_7.out⟩, ⟨by (with_reducible repeat (first | apply Kd.R_alloc | apply Kd.R_drewN | apply Kd.R_drew)); exact HO_169001.out⟩, ⟨by (with_reducible repeat (first | refine blk_drewN ?_ _ | refine blk_drew ?_ | refine blk_alloc ?_ _)); exact BK168.out⟩, ⟨by repeat (first | (with_reducible first | exact HB.out | apply below_alloc | apply pw_below_drewN | apply below_drew1 | refine below_set ?_ GE168.out) | exact HB.out)⟩⟩
                   ·rw [if_neg c22] at H
                    exact absurd H (by simp)
                  ·rw [if_neg c21] at H
                   exact absurd H (by simp)
                 ·rw [if_neg c20] at H
                  exact absurd H (by simp)
                ·rw [if_neg c19] at H
                 exact absurd H (by simp)
               case rest =>
                clear HC18; try clear c1; try clear p1; try clear q1; try clear hx1; try clear c2; try clear p2; try clear c5; try clear c5b0; try clear c6; try clear c7; try clear c7b0; try clear c8; try clear c8b0; try clear c12; try clear c12b0; try clear c13; try clear c13b0; try clear c14; try clear c14b0; try clear c15; try clear c16; try clear p16; try clear q16; try clear hx16; try clear c17; try clear p17; try clear q17; try clear hx17; try clear c19; try clear c19b0; try clear c20; try clear c20b0; try clear c21; try clear c21b0; try clear c22; try clear c22b0; try clear c23; try clear c23b0; try clear hcz10_0; try clear hcz10_1; try clear hfz10_0; try clear hfz10_1; try clear hx167_0; try clear hx167_1; try clear hx169_0; try clear hx169_1; try clear hx176_0; try clear hx176_1; try clear hx177_0; try clear p1; try clear p16; try clear p167; try clear p169; try clear p176; try clear p177; try clear p2; try clear q1; try clear q16; try clear q167; try clear q169; try clear q176; try clear q177
                obtain ⟨kq, x57_17, rfl, HA, HJ17, HO_3, HO_7, HO_169001, BK168, HB⟩ := hcut
                cases kq with
                | zero => exact absurd HA.out (by simp [logjamlaw26_Own.j5])
                | succ kj17 =>
                 have H := HA.out
                 clear HA
                 simp only [logjamlaw26_Own.j5] at H
                 by_cases c24 : x57_17 = true
                 ·subst c24
                  have H1 : (if 0 ≤ x4_1 then (if x4_1 < (l0.length : Int) then (if 0 ≤ x6_3 then (if x6_3 < (((rd_T92 l0 x4_1).f1).length : Int) then (if 0 ≤ x8_5 then (if x8_5 < ((rd_L7 ((rd_T92 l0 x4_1).f1) x6_3).length : Int) then (if (((rd_T96 (rd_L7 ((rd_T92 l0 x4_1).f1) x6_3) x8_5).f1).length : Int) > 70 then (if 70 ≤ (((rd_T96 (rd_L7 ((rd_T92 l0 x4_1).f1) x6_3) x8_5).f1).length : Int) then ((some (((rd_T96 (rd_L7 ((rd_T92 l0 x4_1).f1) x6_3) x8_5).f1).take 70 : List (S108))).bind fun y182 => ((some (([] : List (S108)) : List (S108))).bind fun y186 => (if y186.length + y182.length < 8796093022208 then (if x7_5.length < 4398046511104 then (logjamlaw26_Own.l2 kj17 l0 x3_1 x4_1 x6_3 (x7_5 ++ [(⟨(rd_T96 (rd_L7 ((rd_T92 l0 x4_1).f1) x6_3) x8_5).f0, (y186 ++ y182)⟩ : S96)]) (wrap64 (x8_5 + 1)) ((rd_T92 l0 x4_1).f0) x169001_3) else (none)) else (none)))) else (none)) else ((some (([] : List (S108)) : List (S108))).bind fun y195 => (if y195.length + ((rd_T96 (rd_L7 ((rd_T92 l0 x4_1).f1) x6_3) x8_5).f1).length < 8796093022208 then (if x7_5.length < 4398046511104 then (logjamlaw26_Own.l2 kj17 l0 x3_1 x4_1 x6_3 (x7_5 ++ [(⟨(rd_T96 (rd_L7 ((rd_T92 l0 x4_1).f1) x6_3) x8_5).f0, (y195 ++ ((rd_T96 (rd_L7 ((rd_T92 l0 x4_1).f1) x6_3) x8_5).f1))⟩ : S96)]) (wrap64 (x8_5 + 1)) ((rd_T92 l0 x4_1).f0) x169001_3) else (none)) else (none)))) else (none)) else (none)) else (none)) else (none)) else (none)) else (none)) = some r := by rw [if_pos rfl] at H; exact H
                  clear H
                  have H := H1
                  clear H1
                  by_cases c25 : 0 ≤ x4_1
                  ·rw [if_pos c25] at H
                   have c25b0 : decide (0 ≤ x4_1) = true := decide_eq_true c25
                   clear c25
                   by_cases c26 : x4_1 < (l0.length : Int)
                   ·rw [if_pos c26] at H
                    have c26b0 : decide (x4_1 < (l0.length : Int)) = true := decide_eq_true c26
                    clear c26
                    by_cases c27 : 0 ≤ x6_3
                    ·rw [if_pos c27] at H
                     have c27b0 : decide (0 ≤ x6_3) = true := decide_eq_true c27
                     clear c27
                     by_cases c28 : x6_3 < (((rd_T92 l0 x4_1).f1).length : Int)
                     ·rw [if_pos c28] at H
                      have c28b0 : decide (x6_3 < (((rd_T92 l0 x4_1).f1).length : Int)) = true := decide_eq_true c28
                      clear c28
                      by_cases c29 : 0 ≤ x8_5
                      ·rw [if_pos c29] at H
                       have c29b0 : decide (0 ≤ x8_5) = true := decide_eq_true c29
                       clear c29
                       by_cases c30 : x8_5 < ((rd_L7 ((rd_T92 l0 x4_1).f1) x6_3).length : Int)
                       ·rw [if_pos c30] at H
                        have c30b0 : decide (x8_5 < ((rd_L7 ((rd_T92 l0 x4_1).f1) x6_3).length : Int)) = true := decide_eq_true c30
                        clear c30
                        by_cases c31 : (((rd_T96 (rd_L7 ((rd_T92 l0 x4_1).f1) x6_3) x8_5).f1).length : Int) > 70
                        ·rw [if_pos c31] at H
                         have c31b0 : decide (70 < (((rd_T96 (rd_L7 ((rd_T92 l0 x4_1).f1) x6_3) x8_5).f1).length : Int)) = true := decide_eq_true c31
                         have c31b1 : decide (70 < ((rd_T96 (rd_L7 ((rd_T92 l0 x4_1).f1) x6_3) x8_5).f1).length) = true := decide_eq_true (by omega)
                         clear c31
                         by_cases c32 : 70 ≤ (((rd_T96 (rd_L7 ((rd_T92 l0 x4_1).f1) x6_3) x8_5).f1).length : Int)
                         ·rw [if_pos c32] at H
                          have c32b0 := eq_true c32
                          have c32b1 : decide (70 ≤ (((rd_T96 (rd_L7 ((rd_T92 l0 x4_1).f1) x6_3) x8_5).f1).length : Int)) = true := decide_eq_true c32
                          clear c32
                          obtain ⟨y182, hy182⟩ : ∃ y_ : List (S108), y_ = (((rd_T96 (rd_L7 ((rd_T92 l0 x4_1).f1) x6_3) x8_5).f1).take 70) := ⟨_, rfl⟩
                          replace H : ((some (([] : List (S108)) : List (S108))).bind fun y186 => (if y186.length + y182.length < 8796093022208 then (if x7_5.length < 4398046511104 then (logjamlaw26_Own.l2 kj17 l0 x3_1 x4_1 x6_3 (x7_5 ++ [(⟨(rd_T96 (rd_L7 ((rd_T92 l0 x4_1).f1) x6_3) x8_5).f0, (y186 ++ y182)⟩ : S96)]) (wrap64 (x8_5 + 1)) ((rd_T92 l0 x4_1).f0) x169001_3) else (none)) else (none))) = some r := by first | (rw [hy182]; with_reducible exact H) | (have H2_ := (Option.bind_some _ _).symm.trans H; rw [hy182]; with_reducible exact H2_) | (have H2_ := (Option.bind_some _ _).symm.trans H; with_reducible exact H2_) | with_reducible exact H | (rw [hy182]; exact H) | exact H
                          have Ny182 := Aside0.mk hy182
                          clear hy182
                          obtain ⟨y186, hy186⟩ : ∃ y_ : List (S108), y_ = (([] : List (S108))) := ⟨_, rfl⟩
                          replace H : (if y186.length + y182.length < 8796093022208 then (if x7_5.length < 4398046511104 then (logjamlaw26_Own.l2 kj17 l0 x3_1 x4_1 x6_3 (x7_5 ++ [(⟨(rd_T96 (rd_L7 ((rd_T92 l0 x4_1).f1) x6_3) x8_5).f0, (y186 ++ y182)⟩ : S96)]) (wrap64 (x8_5 + 1)) ((rd_T92 l0 x4_1).f0) x169001_3) else (none)) else (none)) = some r := by first | (rw [hy186]; with_reducible exact H) | (have H2_ := (Option.bind_some _ _).symm.trans H; rw [hy186]; with_reducible exact H2_) | (have H2_ := (Option.bind_some _ _).symm.trans H; with_reducible exact H2_) | with_reducible exact H | (rw [hy186]; exact H) | exact H
                          have Ny186 := Aside0.mk hy186
                          clear hy186
                          by_cases c33 : y186.length + y182.length < 8796093022208
                          ·rw [if_pos c33] at H
                           have LMc33 := Aside0.mk c33
                           clear c33
                           obtain ⟨y189, hy189⟩ : ∃ y_ : List (S108), y_ = (y186 ++ y182) := ⟨_, rfl⟩
                           replace H : (if x7_5.length < 4398046511104 then (logjamlaw26_Own.l2 kj17 l0 x3_1 x4_1 x6_3 (x7_5 ++ [(⟨(rd_T96 (rd_L7 ((rd_T92 l0 x4_1).f1) x6_3) x8_5).f0, y189⟩ : S96)]) (wrap64 (x8_5 + 1)) ((rd_T92 l0 x4_1).f0) x169001_3) else (none)) = some r := by first | (rw [hy189]; with_reducible exact H) | (have H2_ := (Option.bind_some _ _).symm.trans H; rw [hy189]; with_reducible exact H2_) | (have H2_ := (Option.bind_some _ _).symm.trans H; with_reducible exact H2_) | with_reducible exact H | (rw [hy189]; exact H) | exact H
                           have Ny189 := Aside0.mk hy189
                           clear hy189
                           by_cases c34 : x7_5.length < 4398046511104
                           ·rw [if_pos c34] at H
                            have LMc34 := Aside0.mk c34
                            clear c34
                            obtain ⟨y192, hy192⟩ : ∃ y_ : List (S96), y_ = (x7_5 ++ [(⟨(rd_T96 (rd_L7 ((rd_T92 l0 x4_1).f1) x6_3) x8_5).f0, y189⟩ : S96)]) := ⟨_, rfl⟩
                            replace H : (logjamlaw26_Own.l2 kj17 l0 x3_1 x4_1 x6_3 y192 (wrap64 (x8_5 + 1)) ((rd_T92 l0 x4_1).f0) x169001_3) = some r := by first | (rw [hy192]; with_reducible exact H) | (have H2_ := (Option.bind_some _ _).symm.trans H; rw [hy192]; with_reducible exact H2_) | (have H2_ := (Option.bind_some _ _).symm.trans H; with_reducible exact H2_) | with_reducible exact H | (rw [hy192]; exact H) | exact H
                            have Ny192 := Aside0.mk hy192
                            clear hy192
                            have H' := Aside0.mk H
                            clear H
                            have p178 : 0 ≤ (x4_1 : Int) := of_decide_eq_true (by first | (with_reducible assumption) | assumption)
                            have q178 : x4_1 < (l0.length : Int) := of_decide_eq_true (by first | (with_reducible assumption) | assumption)
                            obtain ⟨ad178, A178_1, c178_1, e178, hx178_0, hx178_1, hl178_1, hi178_1⟩ := at_T92 HR0.out x4_1 p178 q178
                            obtain rfl : ad167 = ad178 := (by injection e178)
                            replace hx178_0 := (HB.out.cell (World.block_lt_of_cell? w _ hx178_0)).trans hx178_0
                            replace hx178_1 := (HB.out.cell (World.block_lt_of_cell? w _ hx178_1)).trans hx178_1
                            have HR178_1 := Aside0.mk hi178_1
                            have HC178_1 := Aside0.mk hl178_1
                            clear hi178_1 hl178_1
                            replace p178 := eq_true p178
                            replace q178 := eq_true q178
                            have p179 : 0 ≤ (x6_3 : Int) := of_decide_eq_true (by first | (with_reducible assumption) | assumption)
                            have q179 : x6_3 < (((rd_T92 l0 x4_1).f1).length : Int) := of_decide_eq_true (by first | (with_reducible assumption) | assumption)
                            obtain ⟨ad179, A179_0, c179_0, e179, hx179_0, hl179_0, hi179_0⟩ := at_L7 HR178_1.out x6_3 p179 q179
                            cases e179
                            replace hx179_0 := (HB.out.cell (World.block_lt_of_cell? w _ hx179_0)).trans hx179_0
                            have HR179_0 := Aside0.mk hi179_0
                            have HC179_0 := Aside0.mk hl179_0
                            clear hi179_0 hl179_0
                            replace p179 := eq_true p179
                            replace q179 := eq_true q179
                            have p180 : 0 ≤ (x8_5 : Int) := of_decide_eq_true (by first | (with_reducible assumption) | assumption)
                            have q180 : x8_5 < ((rd_L7 ((rd_T92 l0 x4_1).f1) x6_3).length : Int) := of_decide_eq_true (by first | (with_reducible assumption) | assumption)
                            obtain ⟨ad180, A180_1, c180_1, e180, hx180_0, hx180_1, hl180_1, hi180_1⟩ := at_T96 HR179_0.out x8_5 p180 q180
                            cases e180
                            replace hx180_0 := (HB.out.cell (World.block_lt_of_cell? w _ hx180_0)).trans hx180_0
                            replace hx180_1 := (HB.out.cell (World.block_lt_of_cell? w _ hx180_1)).trans hx180_1
                            have HR180_1 := Aside0.mk hi180_1
                            have HC180_1 := Aside0.mk hl180_1
                            clear hi180_1 hl180_1
                            replace p180 := eq_true p180
                            replace q180 := eq_true q180
                            try go_wp2_with (first | ((with_reducible refine gate_dst (N := 9) rfl ?_); refine box_event ?hg (N := 9) ?hd (cs := #[.int .i64 0, .slice none 0 0]) (t := 96) ?hr ?_; (case hd => rfl); (case hg => rfl); (case hr => first | (go_simp; done) | (go_simp; rfl)); intro gb181 hg w35 hbox hb; have n0_ := Aside0.mk (Kd.R_below (Kd.R_elderB (by (with_reducible repeat (first | apply Kd.R_alloc | apply Kd.R_drewN | apply Kd.R_drew)); exact HO_3.out) gb181 (Nat.le_of_eq hg.symm)) hb); have n1_ := Aside0.mk (Kd.S_below (Kd.S_elderB (by (with_reducible repeat (first | apply Kd.S_alloc | apply Kd.S_drewN | apply Kd.S_drew)); exact HO_7.out) gb181 (Nat.le_of_eq hg.symm)) hb); have n2_ := Aside0.mk (Kd.R_below (Kd.R_elderB (by (with_reducible repeat (first | apply Kd.R_alloc | apply Kd.R_drewN | apply Kd.R_drew)); exact HO_169001.out) gb181 (Nat.le_of_eq hg.symm)) hb); have n3_ := Aside0.mk (blk_below (g := gb168) (o := .cells #[.bool ((rd_T92 l0 x4_1).f0), u169001] 92 (0, 0)) (by (with_reducible repeat (first | refine blk_drewN ?_ _ | refine blk_drew ?_ | refine blk_alloc ?_ _)); exact BK168.out) hb); have n4_ := Aside0.mk (below_step (by repeat (first | (with_reducible first | exact HB.out | apply below_alloc | apply pw_below_drewN | apply below_drew1 | refine below_set ?_ GE168.out) | exact HB.out)) hb); have n5_ := Aside0.mk (hbox); have n6_ := Aside0.mk ((by rw [hg]; exact (below_size (by repeat (first | (with_reducible first | exact HB.out | apply below_alloc | apply pw_below_drewN | apply below_drew1 | refine below_set ?_ GE168.out) | exact HB.out))) : w.heap.size ≤ gb181)); have n7_ := Aside0.mk ((by rw [hg]; exact (below_size (by repeat (first | (with_reducible first | exact HB.out | apply below_alloc | apply pw_below_drewN | apply below_drew1 | refine below_set ?_ GE168.out) | exact HB.out))) : w.heap.size ≤ gb181)); have n8_ := Aside0.mk ((by rw [hg]; exact Nat.ne_of_lt (blk_lt (g := gb168) (o := .cells #[.bool ((rd_T92 l0 x4_1).f0), u169001] 92 (0, 0)) (by (with_reducible repeat (first | refine blk_drewN ?_ _ | refine blk_drew ?_ | refine blk_alloc ?_ _)); exact BK168.out)) : gb168 ≠ gb181)); have n9_ := Aside0.mk ((by rw [hg]; exact Nat.ne_of_gt (blk_lt (g := gb168) (o := .cells #[.bool ((rd_T92 l0 x4_1).f0), u169001] 92 (0, 0)) (by (with_reducible repeat (first | refine blk_drewN ?_ _ | refine blk_drew ?_ | refine blk_alloc ?_ _)); exact BK168.out)) : gb181 ≠ gb168)); clear HO_3; clear HO_7; clear HO_169001; clear BK168; clear HB; have HO_3 := n0_; have HO_7 := n1_; have HO_169001 := n2_; have BK168 := n3_; have HB := n4_; have BK181 := n5_; have GW181 := n6_; have GE181 := n7_; have NB168_181 := n8_; have NB181_168 := n9_; clear n0_ n1_ n2_ n3_ n4_ n5_ n6_ n7_ n8_ n9_; clear hb hbox hg; have hnb36 := NB181_168.out; have hnc36 := NB168_181.out; have hcz37_0 : w35.cell? ⟨gb181, 0, none⟩ = some (.int .i64 0) := (blk_cell BK181.out 0).trans rfl; have hcz37_1 : w35.cell? ⟨gb181, 1, none⟩ = some (.slice none 0 0) := (blk_cell BK181.out 1).trans rfl; have hfz37_0 := blk_frozen BK181.out 0; have hfz37_1 := blk_frozen BK181.out 1) | ((with_reducible refine gate_store (t := 96) (p := 9) rfl ?_); refine store_event (t := 96) (p := 9) (v := ?vo_w38) (w1 := ((w35.setCell ⟨gb181, 0, none⟩ (.int .i64 ((rd_T96 (rd_L7 ((rd_T92 l0 x4_1).f1) x6_3) x8_5).f0))).setCell ⟨gb181, 1, none⟩ (.slice A180_1 ((rd_T96 (rd_L7 ((rd_T92 l0 x4_1).f1) x6_3) x8_5).f1).length c180_1))) ?hg ?ho ?hn ?hr ?_; (case ho => rfl); (case hg => rfl); (case hn => rfl); (case hr => first | (go_simp; done) | (go_simp; rfl)); intro w38 hw; have n0_ : Aside0 (Kd.R k92 92 w38 w.heap.size (fun k_ => some k_ ≠ (u7 : Value).ownBlock ∧ some k_ ≠ (u169001 : Value).ownBlock ∧ k_ ≠ gb168 ∧ k_ ≠ gb181) u3 x3_1) := ⟨(by rw [hw]; exact (by (with_reducible repeat (first | apply Kd.R_alloc | apply Kd.R_drewN | apply Kd.R_drew)); exact Kd.R_mono (Kd.R_far (p := ⟨gb181, 1, none⟩) (Kd.R_far (p := ⟨gb181, 0, none⟩) (Kd.R_mono HO_3.out (fun k_ hk => (⟨hk, hk.2⟩ : _ ∧ k_ ≠ gb181))) (fun _ hk => hk.2) (.int .i64 ((rd_T96 (rd_L7 ((rd_T92 l0 x4_1).f1) x6_3) x8_5).f0))) (fun _ hk => hk.2) (.slice A180_1 ((rd_T96 (rd_L7 ((rd_T92 l0 x4_1).f1) x6_3) x8_5).f1).length c180_1)) (fun _ hk => ⟨hk.1.1.1, ⟨hk.1.1.2.1, ⟨hk.1.1.2.2, hk.1.2⟩⟩⟩)))⟩; have n1_ : Aside0 (Kd.S k96 96 w38 w.heap.size (fun k_ => k_ ≠ gb181) u7 x7_5) := ⟨(by rw [hw]; exact (by (with_reducible repeat (first | apply Kd.S_alloc | apply Kd.S_drewN | apply Kd.S_drew)); exact Kd.S_mono (Kd.S_far (p := ⟨gb181, 1, none⟩) (Kd.S_far (p := ⟨gb181, 0, none⟩) (Kd.S_mono HO_7.out (fun k_ hk => (⟨hk, hk.2⟩ : _ ∧ k_ ≠ gb181))) (fun _ hk => hk.2) (.int .i64 ((rd_T96 (rd_L7 ((rd_T92 l0 x4_1).f1) x6_3) x8_5).f0))) (fun _ hk => hk.2) (.slice A180_1 ((rd_T96 (rd_L7 ((rd_T92 l0 x4_1).f1) x6_3) x8_5).f1).length c180_1)) (fun _ hk => hk.1.2)))⟩; have n2_ : Aside0 (Kd.R (Kd.slice 96 k96) 93 w38 w.heap.size (fun k_ => some k_ ≠ (u7 : Value).ownBlock ∧ k_ ≠ gb181) u169001 x169001_3) := ⟨(by rw [hw]; exact (by (with_reducible repeat (first | apply Kd.R_alloc | apply Kd.R_drewN | apply Kd.R_drew)); exact Kd.R_mono (Kd.R_far (p := ⟨gb181, 1, none⟩) (Kd.R_far (p := ⟨gb181, 0, none⟩) (Kd.R_mono HO_169001.out (fun k_ hk => (⟨hk, hk.2⟩ : _ ∧ k_ ≠ gb181))) (fun _ hk => hk.2) (.int .i64 ((rd_T96 (rd_L7 ((rd_T92 l0 x4_1).f1) x6_3) x8_5).f0))) (fun _ hk => hk.2) (.slice A180_1 ((rd_T96 (rd_L7 ((rd_T92 l0 x4_1).f1) x6_3) x8_5).f1).length c180_1)) (fun _ hk => ⟨hk.1.1, hk.1.2⟩)))⟩; have n3_ : Aside0 (w38.heap[gb168]? = some (.cells #[.bool ((rd_T92 l0 x4_1).f0), u169001] 92 (0, 0))) := ⟨(by rw [hw]; exact (by (with_reducible repeat (first | refine blk_drewN ?_ _ | refine blk_drew ?_ | refine blk_alloc ?_ _)); refine blk_far ?_ NB168_181.out _; (with_reducible repeat (first | refine blk_drewN ?_ _ | refine blk_drew ?_ | refine blk_alloc ?_ _)); refine blk_far ?_ NB168_181.out _; (with_reducible repeat (first | refine blk_drewN ?_ _ | refine blk_drew ?_ | refine blk_alloc ?_ _)); exact BK168.out))⟩; have n4_ : Aside0 (w38.heap[gb181]? = some (.cells #[.int .i64 ((rd_T96 (rd_L7 ((rd_T92 l0 x4_1).f1) x6_3) x8_5).f0), .slice A180_1 ((rd_T96 (rd_L7 ((rd_T92 l0 x4_1).f1) x6_3) x8_5).f1).length c180_1] 96 (0, 0))) := ⟨(by rw [hw]; exact (by (with_reducible repeat (first | refine blk_drewN ?_ _ | refine blk_drew ?_ | refine blk_alloc ?_ _)); refine blk_put (cs := #[.int .i64 ((rd_T96 (rd_L7 ((rd_T92 l0 x4_1).f1) x6_3) x8_5).f0), .slice none 0 0]) ?_ 1 _ rfl; (with_reducible repeat (first | refine blk_drewN ?_ _ | refine blk_drew ?_ | refine blk_alloc ?_ _)); refine blk_put (cs := #[.int .i64 0, .slice none 0 0]) ?_ 0 _ rfl; (with_reducible repeat (first | refine blk_drewN ?_ _ | refine blk_drew ?_ | refine blk_alloc ?_ _)); exact BK181.out))⟩; have n5_ : Aside0 (Below w.heap.size w w38) := ⟨(by rw [hw]; exact (by repeat (first | (with_reducible first | exact HB.out | apply below_alloc | apply pw_below_drewN | apply below_drew1 | refine below_set ?_ GE168.out | refine below_set ?_ GE181.out) | exact HB.out)))⟩; clear hw; clear HO_3; clear HO_7; clear HO_169001; clear BK168; clear BK181; clear HB; have HO_3 := n0_; have HO_7 := n1_; have HO_169001 := n2_; have BK168 := n3_; have BK181 := n4_; have HB := n5_; clear n0_ n1_ n2_ n3_ n4_ n5_; have hcz39_0 : w38.cell? ⟨gb181, 0, none⟩ = some (.int .i64 ((rd_T96 (rd_L7 ((rd_T92 l0 x4_1).f1) x6_3) x8_5).f0)) := (blk_cell BK181.out 0).trans rfl; have hcz39_1 : w38.cell? ⟨gb181, 1, none⟩ = some (.slice A180_1 ((rd_T96 (rd_L7 ((rd_T92 l0 x4_1).f1) x6_3) x8_5).f1).length c180_1) := (blk_cell BK181.out 1).trans rfl; have hfz39_0 := blk_frozen BK181.out 0; have hfz39_1 := blk_frozen BK181.out 1; have q40 : (70 : Int) ≤ ((((rd_T96 (rd_L7 ((rd_T92 l0 x4_1).f1) x6_3) x8_5).f1).length : Int) : Int) := of_decide_eq_true (by first | (with_reducible assumption) | assumption); obtain ⟨i040, hi040, _, hsz40, _⟩ := info_parts info108; have hroom40 : ((rd_T96 (rd_L7 ((rd_T92 l0 x4_1).f1) x6_3) x8_5).f1).length ≤ c180_1 := HC180_1.out; have hC40 : Kd.C k108 _ A180_1 ((rd_T96 (rd_L7 ((rd_T92 l0 x4_1).f1) x6_3) x8_5).f1).length ((rd_T96 (rd_L7 ((rd_T92 l0 x4_1).f1) x6_3) x8_5).f1) := HR180_1.out; have hcut40 := cut_to (P := Tryd.prog) 94 108 .i64 Tryd.underlying94 hi040 A180_1 ((rd_T96 (rd_L7 ((rd_T92 l0 x4_1).f1) x6_3) x8_5).f1).length c180_1 70 (by omega) q40 hroom40; have hr40 := Kd.C_take (m := 70) hC40 (by omega); have hy40 : y182.length = (70 : Int).toNat := (by rw [Ny182.out, List.length_take]; omega); rw [← Ny182.out] at hr40; rw [← hy40] at hcut40; have HR185 := Aside0.mk hr40; have HC185 := Aside0.mk (show y182.length ≤ c180_1 from by omega); clear hr40 hC40 hroom40 hi040 hsz40; have KY40 := Aside0.mk hy40; clear hy40; replace q40 := eq_true q40))
                            have n0_ := Aside0.mk (Kd.R_drew HO_3.out)
                            have n1_ := Aside0.mk (Kd.S_drew HO_7.out)
                            have n2_ := Aside0.mk (Kd.R_drew HO_169001.out)
                            have n3_ := Aside0.mk (blk_drew BK168.out)
                            have n4_ := Aside0.mk (blk_drew BK181.out)
                            have n5_ := Aside0.mk (below_drew1 HB.out)
                            clear HO_3; clear HO_7; clear HO_169001; clear BK168; clear BK181; clear HB; have HO_3 := n0_; have HO_7 := n1_; have HO_169001 := n2_; have BK168 := n3_; have BK181 := n4_; have HB := n5_; clear n0_ n1_ n2_ n3_ n4_ n5_
                            refine start_ (n := 10) (S := fun w' => w'.cell? ⟨gb181, 0, none⟩ = some (.int .i64 ((rd_T96 (rd_L7 ((rd_T92 l0 x4_1).f1) x6_3) x8_5).f0)) ∧ w'.cell? ⟨gb181, 1, none⟩ = some (.slice A180_1 ((rd_T96 (rd_L7 ((rd_T92 l0 x4_1).f1) x6_3) x8_5).f1).length c180_1)) (ds := []) #[false, false, false, false, false, false, false, false, false, false] (by kernel_rfl) rfl rfl ⟨(blk_cell BK181.out 0).trans rfl, (blk_cell BK181.out 1).trans rfl⟩ (fun hHeld => ?_); refine with_tabW logjamlaw26_Own.tab17 logjamlaw26_Own.bits17 (fun HT_ HW_ => ?_)
                            generalize w38.drew = w41 at HO_3 HO_7 HO_169001 BK168 BK181 HB hHeld ⊢
                            refine pure_ (i := 0) (N := some 78) (v := ?_) (a' := ?_) #[true, false, false, false, false, false, false, false, false, false] rfl rfl (any_of HT_.out (by kernel_rfl)) (fun _ _ _ h => h) (Or.inl ⟨by rfl, ?_⟩) ?_ ?_
                            rotate_left
                            ·intro w'
                             go_simp
                             with_reducible rfl
                            rotate_left
                            ·simp only [Act.put, List.setIfInBounds_toArray, List.set_cons_zero, List.set_cons_succ, i64_w, i32_w]
                             rfl
                            refine pure_ (i := 1) (N := some 79) (v := ?_) (a' := ?_) #[true, true, false, false, false, false, false, false, false, false] rfl rfl (any_of HT_.out (by kernel_rfl)) (fun _ _ _ h => h) (Or.inl ⟨by rfl, ?_⟩) ?_ ?_
                            rotate_left
                            ·intro w'
                             go_simp
                             with_reducible rfl
                            rotate_left
                            ·simp only [Act.put, List.setIfInBounds_toArray, List.set_cons_zero, List.set_cons_succ, i64_w, i32_w]
                             rfl
                            refine pure_ (i := 4) (N := some 82) (v := ?_) (a' := ?_) #[true, true, false, false, true, false, false, false, false, false] rfl rfl (any_of HT_.out (by kernel_rfl)) (fun _ _ _ h => h) (Or.inl ⟨by rfl, ?_⟩) ?_ ?_
                            rotate_left
                            ·intro w'
                             go_simp
                             with_reducible rfl
                            rotate_left
                            ·simp only [Act.put, List.setIfInBounds_toArray, List.set_cons_zero, List.set_cons_succ, i64_w, i32_w]
                             rfl
                            refine take_ (i := 2) (N := some 80) (v := ?_) (a' := ?_) #[true, true, true, false, true, false, false, false, false, false] rfl rfl (take_ofW HT_.out HW_.out (by kernel_rfl)) (fun _ _ _ h => h) (Or.inl ⟨by rfl, ?_⟩) hHeld ?_ ?_
                            rotate_left
                            ·rintro w' ⟨s0, s1⟩
                             go_simp
                             with_reducible rfl
                            rotate_left
                            ·simp only [Act.put, List.setIfInBounds_toArray, List.set_cons_zero, List.set_cons_succ, i64_w, i32_w]
                             rfl
                            refine one_ (i := 3) (N := some 81) #[true, true, true, true, true, false, false, false, false, false] rfl rfl (one_of HT_.out (by kernel_rfl)) (by decide) (fun K hK => ?_)
                            refine Kd.R_lit_step k108 _ 108 ?hg (N := 81) ?hd (xs := ([] : List (S108))) (inner := []) (ok := fun _ => True) (okp := fun _ => True) ?hr ?hp (fun _ hk => hk) trivial (Below.refl _ _) (Nat.le_refl _) (by simp) ?_; (case hd => rfl); (case hg => rfl); (case hr => first | (go_simp; done) | (go_simp; rfl)); (case hp => exact (Reps.none _ _))
                            intro v187 w42 ho43 hb hg_ hnew_
                            clear hg_ hnew_
                            (first | rw [← Ny186.out] at ho43 | (simp only [Int.reduceToNat] at ho43; rw [← Ny186.out] at ho43))
                            have n0_ := Aside0.mk (Kd.R_elder' (by (with_reducible repeat (first | apply Kd.R_alloc | apply Kd.R_drewN | apply Kd.R_drew)); exact HO_3.out) (Kd.R_base ho43) hb)
                            have n1_ := Aside0.mk (Kd.S_elder' (by (with_reducible repeat (first | apply Kd.S_alloc | apply Kd.S_drewN | apply Kd.S_drew)); exact HO_7.out) (Kd.R_base ho43) hb)
                            have n2_ := Aside0.mk (Kd.R_elder' (by (with_reducible repeat (first | apply Kd.R_alloc | apply Kd.R_drewN | apply Kd.R_drew)); exact HO_169001.out) (Kd.R_base ho43) hb)
                            have n3_ := Aside0.mk (Kd.R_lower ho43 (below_size (by repeat (first | (with_reducible first | exact HB.out | apply below_alloc | apply pw_below_drewN | apply below_drew1 | refine below_set ?_ GE168.out | refine below_set ?_ GE181.out) | exact HB.out))))
                            have n4_ := Aside0.mk (blk_below (g := gb168) (o := .cells #[.bool ((rd_T92 l0 x4_1).f0), u169001] 92 (0, 0)) (by (with_reducible repeat (first | refine blk_drewN ?_ _ | refine blk_drew ?_ | refine blk_alloc ?_ _)); exact BK168.out) hb)
                            have n5_ := Aside0.mk (blk_below (g := gb181) (o := .cells #[.int .i64 ((rd_T96 (rd_L7 ((rd_T92 l0 x4_1).f1) x6_3) x8_5).f0), .slice A180_1 ((rd_T96 (rd_L7 ((rd_T92 l0 x4_1).f1) x6_3) x8_5).f1).length c180_1] 96 (0, 0)) (by (with_reducible repeat (first | refine blk_drewN ?_ _ | refine blk_drew ?_ | refine blk_alloc ?_ _)); exact BK181.out) hb)
                            have n6_ := Aside0.mk (below_step (by repeat (first | (with_reducible first | exact HB.out | apply below_alloc | apply pw_below_drewN | apply below_drew1 | refine below_set ?_ GE168.out | refine below_set ?_ GE181.out) | exact HB.out)) hb)
                            clear HO_3; clear HO_7; clear HO_169001; clear BK168; clear BK181; clear HB; have HO_3 := n0_; have HO_7 := n1_; have HO_169001 := n2_; have HO188 := n3_; have BK168 := n4_; have BK181 := n5_; have HB := n6_; clear n0_ n1_ n2_ n3_ n4_ n5_ n6_; clear hb ho43
                            refine hK.out _ _ ⟨(blk_cell BK181.out 0).trans rfl, (blk_cell BK181.out 1).trans rfl⟩ (fun hHeld => ?_)
                            clear hK K
                            refine norm_ (a' := ?_) ?_ ?_
                            rotate_left
                            ·show Act.put _ (some 81) _ = _
                             simp only [Act.put, List.setIfInBounds_toArray, List.set_cons_zero, List.set_cons_succ, i64_w, i32_w]
                             rfl
                            refine one_ (i := 5) (N := some 83) #[true, true, true, true, true, true, false, false, false, false] rfl rfl (one_of HT_.out (by kernel_rfl)) (by decide) (fun K hK => ?_)
                            refine Kd.R_append_rows_step k108 (w0 := w) w.heap.size (by rfl) (.tmp 81) (.tmp 82) 94 108 (.agg #[(.int .i64 0), (.int .i64 0)]) 16 rfl Tryd.underlying94 info108 rfl (by decide) (by omega) v187 y186 y182 _ _ _ (fun _ => True) (fun _ => False) rfl rfl ?aO ?aR (fun _ _ h => h) (fun _ h => h.elim) ?aF ?aB ?aS ?aL ?_
                            (case aR => repeat (first | exact (Kd.C_below HR185.out HB.out) | (with_reducible refine Kd.C_alloc ?_ _) | (with_reducible refine Kd.C_drewN ?_ _) | (with_reducible refine Kd.C_drew ?_)))
                            (case aB => exact (by repeat (first | (with_reducible first | exact HB.out | apply below_alloc | apply pw_below_drewN | apply below_drew1 | refine below_set ?_ GE168.out | refine below_set ?_ GE181.out) | exact HB.out)))
                            (case aF => exact (fun _ _ => trivial))
                            (case aO => exact (by (with_reducible repeat (first | apply Kd.R_alloc | apply Kd.R_drewN | apply Kd.R_drew)); exact HO188.out))
                            (case aS => exact (below_size (by repeat (first | (with_reducible first | exact HB.out | apply below_alloc | apply pw_below_drewN | apply below_drew1 | refine below_set ?_ GE168.out | refine below_set ?_ GE181.out) | exact HB.out))))
                            (case aL => have := LMc33.out; omega)
                            intro v190 w44 ho hb hg hat
                            rw [← Ny189.out] at ho
                            have n0_ := Aside0.mk (Kd.R_after (ok := (fun k_ => some k_ ≠ (u7 : Value).ownBlock ∧ some k_ ≠ (u169001 : Value).ownBlock ∧ k_ ≠ gb168 ∧ k_ ≠ gb181)) (by (with_reducible repeat (first | apply Kd.R_alloc | apply Kd.R_drewN | apply Kd.R_drew)); exact HO_3.out) hg hat)
                            have n1_ := Aside0.mk (Kd.S_after (ok := (fun k_ => k_ ≠ gb181)) (by (with_reducible repeat (first | apply Kd.S_alloc | apply Kd.S_drewN | apply Kd.S_drew)); exact HO_7.out) hg hat)
                            have n2_ := Aside0.mk (Kd.R_after (ok := (fun k_ => some k_ ≠ (u7 : Value).ownBlock ∧ k_ ≠ gb181)) (by (with_reducible repeat (first | apply Kd.R_alloc | apply Kd.R_drewN | apply Kd.R_drew)); exact HO_169001.out) hg hat)
                            have n3_ := Aside0.mk (blk_grown (g := gb168) (o := .cells #[.bool ((rd_T92 l0 x4_1).f0), u169001] 92 (0, 0)) (by (with_reducible repeat (first | refine blk_drewN ?_ _ | refine blk_drew ?_ | refine blk_alloc ?_ _)); exact BK168.out) hg (Kd.R_ne HO188.out BK168.out (by decide)))
                            have n4_ := Aside0.mk (blk_grown (g := gb181) (o := .cells #[.int .i64 ((rd_T96 (rd_L7 ((rd_T92 l0 x4_1).f1) x6_3) x8_5).f0), .slice A180_1 ((rd_T96 (rd_L7 ((rd_T92 l0 x4_1).f1) x6_3) x8_5).f1).length c180_1] 96 (0, 0)) (by (with_reducible repeat (first | refine blk_drewN ?_ _ | refine blk_drew ?_ | refine blk_alloc ?_ _)); exact BK181.out) hg (Kd.R_ne HO188.out BK181.out (by decide)))
                            have n5_ := Aside0.mk (hb)
                            have n6_ := Aside0.mk (ho)
                            clear HO_3; clear HO_7; clear HO_169001; clear BK168; clear BK181; clear HB; clear HO188; have HO_3 := n0_; have HO_7 := n1_; have HO_169001 := n2_; have BK168 := n3_; have BK181 := n4_; have HB := n5_; have HO191 := n6_; clear n0_ n1_ n2_ n3_ n4_ n5_ n6_; clear ho hb hg hat
                            obtain ⟨Ao45, co45, eo45⟩ := Kd.R_slice HO191.out
                            (first | subst eo45 | (injection eo45 with f1_ f2_ f3_; have f4_ := f1_.symm; have f5_ := f3_.symm; clear f1_ f2_ f3_; subst f4_; subst f5_))
                            refine hK.out _ _ ⟨(blk_cell BK181.out 0).trans rfl, (blk_cell BK181.out 1).trans rfl⟩ (fun hHeld => ?_)
                            clear hK K
                            refine norm_ (a' := ?_) ?_ ?_
                            rotate_left
                            ·show Act.put _ (some 83) _ = _
                             simp only [Act.put, List.setIfInBounds_toArray, List.set_cons_zero, List.set_cons_succ, i64_w, i32_w]
                             rfl
                            refine pure_ (i := 6) (N := some 84) (v := ?_) (a' := ?_) #[true, true, true, true, true, true, true, false, false, false] rfl rfl (any_of HT_.out (by kernel_rfl)) (fun _ _ _ h => h) (Or.inl ⟨by rfl, ?_⟩) ?_ ?_
                            rotate_left
                            ·intro w'
                             go_simp
                             with_reducible rfl
                            rotate_left
                            ·simp only [Act.put, List.setIfInBounds_toArray, List.set_cons_zero, List.set_cons_succ, i64_w, i32_w]
                             rfl
                            refine one_ (i := 7) (N := some 85) #[true, true, true, true, true, true, true, true, false, false] rfl rfl (one_of HT_.out (by kernel_rfl)) (by decide) (fun K hK => ?_)
                            refine value_ (w1 := ?_) (v := ?_) (by rfl) rfl ?_ ?_
                            rotate_left 2
                            ·go_simp
                             constructor
                             ·rfl
                             ·rfl
                            refine hK.out _ _ ⟨(blk_cell (blk_alloc BK181.out _) 0).trans rfl, (blk_cell (blk_alloc BK181.out _) 1).trans rfl⟩ (fun hHeld => ?_)
                            clear hK K
                            refine norm_ (a' := ?_) ?_ ?_
                            rotate_left
                            ·show Act.put _ (some 85) _ = _
                             simp only [Act.put, List.setIfInBounds_toArray, List.set_cons_zero, List.set_cons_succ, i64_w, i32_w]
                             rfl
                            refine one_ (i := 8) (N := some 86) #[true, true, true, true, true, true, true, true, true, false] rfl rfl (one_of HT_.out (by kernel_rfl)) (by decide) (fun K hK => ?_)
                            refine Kd.S_append_step k96 (w0 := w) w.heap.size (by rfl) (.tmp 78) (.tmp 85) 93 96 (.agg #[(.int .i64 0), (.slice none 0 0)]) 32 rfl Tryd.underlying93 info96 rfl (by decide) (by omega) u7 x7_5 (⟨(rd_T96 (rd_L7 ((rd_T92 l0 x4_1).f1) x6_3) x8_5).f0, y189⟩ : S96) [.int .i64 ((rd_T96 (rd_L7 ((rd_T92 l0 x4_1).f1) x6_3) x8_5).f0), .slice Ao45 y189.length co45] (fun k_ => k_ ≠ gb181) (fun k_ => some k_ = (.slice Ao45 y189.length co45 : Value).ownBlock) rfl rfl ?aP (fun k_ hk_ => ((Kd.R_mono (ok' := fun k_ => ((fun k_ => k_ ≠ gb181)) k_ ∧ some k_ ≠ (u7 : Value).ownBlock) (Kd.R_types (Kd.R_apart' (HO191.out) (Kd.S_typed HO_7.out) (by decide)) BK181.out (by decide)) (fun k_ hk => ⟨hk.2, hk.1.2⟩))).1 k_ hk_.symm) ?aF ?aO ?aB ?aS ?aL ?_
                            (case aP => exact k96_mkM _ _ _ (⟨(rd_T96 (rd_L7 ((rd_T92 l0 x4_1).f1) x6_3) x8_5).f0, y189⟩ : S96) (Kd.R_mono (Kd.R_tight rfl (Kd.R_mono (ok' := fun k_ => ((fun k_ => k_ ≠ gb181)) k_ ∧ some k_ ≠ (u7 : Value).ownBlock) (Kd.R_types (Kd.R_apart' (HO191.out) (Kd.S_typed HO_7.out) (by decide)) BK181.out (by decide)) (fun k_ hk => ⟨hk.2, hk.1.2⟩))) (fun _ h_ => h_)))
                            (case aB => exact (by repeat (first | (with_reducible first | exact HB.out | apply below_alloc | apply pw_below_drewN | apply below_drew1 | refine below_set ?_ GE168.out | refine below_set ?_ GE181.out) | exact HB.out)))
                            (case aF => exact (fun k_ hk => Kd.freshB (g := gb181) (o := .cells #[.int .i64 ((rd_T96 (rd_L7 ((rd_T92 l0 x4_1).f1) x6_3) x8_5).f0), .slice A180_1 ((rd_T96 (rd_L7 ((rd_T92 l0 x4_1).f1) x6_3) x8_5).f1).length c180_1] 96 (0, 0)) (by (with_reducible repeat (first | refine blk_drewN ?_ _ | refine blk_drew ?_ | refine blk_alloc ?_ _)); exact BK181.out) k_ hk))
                            (case aO => exact (by (with_reducible repeat (first | apply Kd.S_alloc | apply Kd.S_drewN | apply Kd.S_drew)); exact Kd.S_mono HO_7.out (fun k_ hk => ⟨hk.1, fun e_ => hk.2 e_⟩)))
                            (case aS => exact (below_size (by repeat (first | (with_reducible first | exact HB.out | apply below_alloc | apply pw_below_drewN | apply below_drew1 | refine below_set ?_ GE168.out | refine below_set ?_ GE181.out) | exact HB.out))))
                            (case aL => have := LMc34.out; omega)
                            intro v193 w46 ho hb hg hat
                            rw [← Ny192.out] at ho
                            have n0_ := Aside0.mk (Kd.R_after (ok := (fun k_ => some k_ ≠ (u169001 : Value).ownBlock ∧ some k_ ≠ (.slice Ao45 y189.length co45 : Value).ownBlock ∧ k_ ≠ gb168 ∧ k_ ≠ gb181)) (by (with_reducible repeat (first | apply Kd.R_alloc | apply Kd.R_drewN | apply Kd.R_drew)); exact Kd.R_mono HO_3.out (fun _ hk => ⟨⟨hk.1.2.1, ⟨hk.2, ⟨hk.1.2.2.1, hk.1.2.2.2⟩⟩⟩, hk.1.1⟩)) hg hat)
                            have n1_ := Aside0.mk (Kd.R_after (ok := (fun k_ => some k_ ≠ (.slice Ao45 y189.length co45 : Value).ownBlock ∧ k_ ≠ gb181)) (by (with_reducible repeat (first | apply Kd.R_alloc | apply Kd.R_drewN | apply Kd.R_drew)); exact Kd.R_mono HO_169001.out (fun _ hk => ⟨⟨hk.2, hk.1.2⟩, hk.1.1⟩)) hg hat)
                            have n2_ := Aside0.mk (blk_grown (g := gb168) (o := .cells #[.bool ((rd_T92 l0 x4_1).f0), u169001] 92 (0, 0)) (by (with_reducible repeat (first | refine blk_drewN ?_ _ | refine blk_drew ?_ | refine blk_alloc ?_ _)); exact BK168.out) hg (Kd.S_ne HO_7.out BK168.out (by decide)))
                            have n3_ := Aside0.mk (blk_grown (g := gb181) (o := .cells #[.int .i64 ((rd_T96 (rd_L7 ((rd_T92 l0 x4_1).f1) x6_3) x8_5).f0), .slice A180_1 ((rd_T96 (rd_L7 ((rd_T92 l0 x4_1).f1) x6_3) x8_5).f1).length c180_1] 96 (0, 0)) (by (with_reducible repeat (first | refine blk_drewN ?_ _ | refine blk_drew ?_ | refine blk_alloc ?_ _)); exact BK181.out) hg (Kd.S_away HO_7.out (fun _ hk => hk.1)))
                            have n4_ := Aside0.mk (hb)
                            have n5_ := Aside0.mk (ho)
                            clear HO_3; clear HO_169001; clear BK168; clear BK181; clear HB; clear HO_7; clear HO191; have HO_3 := n0_; have HO_169001 := n1_; have BK168 := n2_; have BK181 := n3_; have HB := n4_; have HO194 := n5_; clear n0_ n1_ n2_ n3_ n4_ n5_; clear ho hb hg hat
                            refine hK.out _ _ ⟨(blk_cell BK181.out 0).trans rfl, (blk_cell BK181.out 1).trans rfl⟩ (fun hHeld => ?_)
                            clear hK K
                            refine norm_ (a' := ?_) ?_ ?_
                            rotate_left
                            ·show Act.put _ (some 86) _ = _
                             simp only [Act.put, List.setIfInBounds_toArray, List.set_cons_zero, List.set_cons_succ, i64_w, i32_w]
                             rfl
                            refine pure_ (i := 9) (N := some 7) (v := ?_) (a' := ?_) #[true, true, true, true, true, true, true, true, true, true] rfl rfl (any_of HT_.out (by kernel_rfl)) (fun _ _ _ h => h) (Or.inl ⟨by rfl, ?_⟩) ?_ ?_
                            rotate_left
                            ·intro w'
                             go_simp
                             with_reducible rfl
                            rotate_left
                            ·simp only [Act.put, List.setIfInBounds_toArray, List.set_cons_zero, List.set_cons_succ, i64_w, i32_w]
                             rfl
                            refine done_ (done_of HT_.out (by kernel_rfl)) ?_
                            try go_wp2
                            go_roundg kj17
                            case measure => have := HK1.out; have := HJ3.out; have := HK3.out; have := HJ10.out; have := HK5.out; have := HJ17.out; omega
                            case rel => exact ⟨(y192), (wrap64 (x8_5 + 1)), (by first | rfl | (simp; done) | (simp only [emptyNe_, emptyEq_]; done) | (simp [*]; done)), H', ⟨by have := HK1.out; have := HJ3.out; have := HK3.out; have := HJ10.out; have := HK5.out; have := HJ17.out; omega⟩, ⟨by (with_reducible repeat (first | apply Kd.R_alloc | apply Kd.R_drewN | apply Kd.R_drew)); exact Kd.R_mono HO_3.out (fun _ hk => ⟨hk.2, ⟨hk.1.1, hk.1.2.2.1⟩⟩)⟩, ⟨by (with_reducible repeat (first | apply Kd.S_alloc | apply Kd.S_drewN | apply Kd.S_drew)); exact Kd.S_mono HO194.out (fun _ hk => trivial)⟩, ⟨by (with_reducible repeat (first | apply Kd.R_alloc | apply Kd.R_drewN | apply Kd.R_drew)); exact Kd.R_mono HO_169001.out (fun _ hk => hk.2)⟩, ⟨by (with_reducible repeat (first | refine blk_drewN ?_ _ | refine blk_drew ?_ | refine blk_alloc ?_ _)); exact BK168.out⟩, ⟨by repeat (first | (with_reducible first | exact HB.out | apply below_alloc | apply pw_below_drewN | apply below_drew1 | refine below_set ?_ GE168.out | refine below_set ?_ GE181.out) | exact HB.out)⟩⟩
                           ·rw [if_neg c34] at H
                            exact absurd H (by simp)
                          ·rw [if_neg c33] at H
                           exact absurd H (by simp)
                         ·rw [if_neg c32] at H
                          exact absurd H (by simp)
                        ·rw [if_neg c31] at H
                         have c31b0 : decide (70 < (((rd_T96 (rd_L7 ((rd_T92 l0 x4_1).f1) x6_3) x8_5).f1).length : Int)) = false := decide_eq_false c31
                         have c31b1 : decide (70 < ((rd_T96 (rd_L7 ((rd_T92 l0 x4_1).f1) x6_3) x8_5).f1).length) = false := decide_eq_false (by omega)
                         clear c31
                         obtain ⟨y195, hy195⟩ : ∃ y_ : List (S108), y_ = (([] : List (S108))) := ⟨_, rfl⟩
                         replace H : (if y195.length + ((rd_T96 (rd_L7 ((rd_T92 l0 x4_1).f1) x6_3) x8_5).f1).length < 8796093022208 then (if x7_5.length < 4398046511104 then (logjamlaw26_Own.l2 kj17 l0 x3_1 x4_1 x6_3 (x7_5 ++ [(⟨(rd_T96 (rd_L7 ((rd_T92 l0 x4_1).f1) x6_3) x8_5).f0, (y195 ++ ((rd_T96 (rd_L7 ((rd_T92 l0 x4_1).f1) x6_3) x8_5).f1))⟩ : S96)]) (wrap64 (x8_5 + 1)) ((rd_T92 l0 x4_1).f0) x169001_3) else (none)) else (none)) = some r := by first | (rw [hy195]; with_reducible exact H) | (have H2_ := (Option.bind_some _ _).symm.trans H; rw [hy195]; with_reducible exact H2_) | (have H2_ := (Option.bind_some _ _).symm.trans H; with_reducible exact H2_) | with_reducible exact H | (rw [hy195]; exact H) | exact H
                         have Ny195 := Aside0.mk hy195
                         clear hy195
                         by_cases c47 : y195.length + ((rd_T96 (rd_L7 ((rd_T92 l0 x4_1).f1) x6_3) x8_5).f1).length < 8796093022208
                         ·rw [if_pos c47] at H
                          have LMc47 := Aside0.mk c47
                          clear c47
                          obtain ⟨y198, hy198⟩ : ∃ y_ : List (S108), y_ = (y195 ++ ((rd_T96 (rd_L7 ((rd_T92 l0 x4_1).f1) x6_3) x8_5).f1)) := ⟨_, rfl⟩
                          replace H : (if x7_5.length < 4398046511104 then (logjamlaw26_Own.l2 kj17 l0 x3_1 x4_1 x6_3 (x7_5 ++ [(⟨(rd_T96 (rd_L7 ((rd_T92 l0 x4_1).f1) x6_3) x8_5).f0, y198⟩ : S96)]) (wrap64 (x8_5 + 1)) ((rd_T92 l0 x4_1).f0) x169001_3) else (none)) = some r := by first | (rw [hy198]; with_reducible exact H) | (have H2_ := (Option.bind_some _ _).symm.trans H; rw [hy198]; with_reducible exact H2_) | (have H2_ := (Option.bind_some _ _).symm.trans H; with_reducible exact H2_) | with_reducible exact H | (rw [hy198]; exact H) | exact H
                          have Ny198 := Aside0.mk hy198
                          clear hy198
                          by_cases c48 : x7_5.length < 4398046511104
                          ·rw [if_pos c48] at H
                           have LMc48 := Aside0.mk c48
                           clear c48
                           obtain ⟨y201, hy201⟩ : ∃ y_ : List (S96), y_ = (x7_5 ++ [(⟨(rd_T96 (rd_L7 ((rd_T92 l0 x4_1).f1) x6_3) x8_5).f0, y198⟩ : S96)]) := ⟨_, rfl⟩
                           replace H : (logjamlaw26_Own.l2 kj17 l0 x3_1 x4_1 x6_3 y201 (wrap64 (x8_5 + 1)) ((rd_T92 l0 x4_1).f0) x169001_3) = some r := by first | (rw [hy201]; with_reducible exact H) | (have H2_ := (Option.bind_some _ _).symm.trans H; rw [hy201]; with_reducible exact H2_) | (have H2_ := (Option.bind_some _ _).symm.trans H; with_reducible exact H2_) | with_reducible exact H | (rw [hy201]; exact H) | exact H
                           have Ny201 := Aside0.mk hy201
                           clear hy201
                           have H' := Aside0.mk H
                           clear H
                           have p178 : 0 ≤ (x4_1 : Int) := of_decide_eq_true (by first | (with_reducible assumption) | assumption)
                           have q178 : x4_1 < (l0.length : Int) := of_decide_eq_true (by first | (with_reducible assumption) | assumption)
                           obtain ⟨ad178, A178_1, c178_1, e178, hx178_0, hx178_1, hl178_1, hi178_1⟩ := at_T92 HR0.out x4_1 p178 q178
                           obtain rfl : ad167 = ad178 := (by injection e178)
                           replace hx178_0 := (HB.out.cell (World.block_lt_of_cell? w _ hx178_0)).trans hx178_0
                           replace hx178_1 := (HB.out.cell (World.block_lt_of_cell? w _ hx178_1)).trans hx178_1
                           have HR178_1 := Aside0.mk hi178_1
                           have HC178_1 := Aside0.mk hl178_1
                           clear hi178_1 hl178_1
                           replace p178 := eq_true p178
                           replace q178 := eq_true q178
                           have p179 : 0 ≤ (x6_3 : Int) := of_decide_eq_true (by first | (with_reducible assumption) | assumption)
                           have q179 : x6_3 < (((rd_T92 l0 x4_1).f1).length : Int) := of_decide_eq_true (by first | (with_reducible assumption) | assumption)
                           obtain ⟨ad179, A179_0, c179_0, e179, hx179_0, hl179_0, hi179_0⟩ := at_L7 HR178_1.out x6_3 p179 q179
                           cases e179
                           replace hx179_0 := (HB.out.cell (World.block_lt_of_cell? w _ hx179_0)).trans hx179_0
                           have HR179_0 := Aside0.mk hi179_0
                           have HC179_0 := Aside0.mk hl179_0
                           clear hi179_0 hl179_0
                           replace p179 := eq_true p179
                           replace q179 := eq_true q179
                           have p180 : 0 ≤ (x8_5 : Int) := of_decide_eq_true (by first | (with_reducible assumption) | assumption)
                           have q180 : x8_5 < ((rd_L7 ((rd_T92 l0 x4_1).f1) x6_3).length : Int) := of_decide_eq_true (by first | (with_reducible assumption) | assumption)
                           obtain ⟨ad180, A180_1, c180_1, e180, hx180_0, hx180_1, hl180_1, hi180_1⟩ := at_T96 HR179_0.out x8_5 p180 q180
                           cases e180
                           replace hx180_0 := (HB.out.cell (World.block_lt_of_cell? w _ hx180_0)).trans hx180_0
                           replace hx180_1 := (HB.out.cell (World.block_lt_of_cell? w _ hx180_1)).trans hx180_1
                           have HR180_1 := Aside0.mk hi180_1
                           have HC180_1 := Aside0.mk hl180_1
                           clear hi180_1 hl180_1
                           replace p180 := eq_true p180
                           replace q180 := eq_true q180
                           try go_wp2_with (first | ((with_reducible refine gate_dst (N := 9) rfl ?_); refine box_event ?hg (N := 9) ?hd (cs := #[.int .i64 0, .slice none 0 0]) (t := 96) ?hr ?_; (case hd => rfl); (case hg => rfl); (case hr => first | (go_simp; done) | (go_simp; rfl)); intro gb181 hg w49 hbox hb; have n0_ := Aside0.mk (Kd.R_below (Kd.R_elderB (by (with_reducible repeat (first | apply Kd.R_alloc | apply Kd.R_drewN | apply Kd.R_drew)); exact HO_3.out) gb181 (Nat.le_of_eq hg.symm)) hb); have n1_ := Aside0.mk (Kd.S_below (Kd.S_elderB (by (with_reducible repeat (first | apply Kd.S_alloc | apply Kd.S_drewN | apply Kd.S_drew)); exact HO_7.out) gb181 (Nat.le_of_eq hg.symm)) hb); have n2_ := Aside0.mk (Kd.R_below (Kd.R_elderB (by (with_reducible repeat (first | apply Kd.R_alloc | apply Kd.R_drewN | apply Kd.R_drew)); exact HO_169001.out) gb181 (Nat.le_of_eq hg.symm)) hb); have n3_ := Aside0.mk (blk_below (g := gb168) (o := .cells #[.bool ((rd_T92 l0 x4_1).f0), u169001] 92 (0, 0)) (by (with_reducible repeat (first | refine blk_drewN ?_ _ | refine blk_drew ?_ | refine blk_alloc ?_ _)); exact BK168.out) hb); have n4_ := Aside0.mk (below_step (by repeat (first | (with_reducible first | exact HB.out | apply below_alloc | apply pw_below_drewN | apply below_drew1 | refine below_set ?_ GE168.out) | exact HB.out)) hb); have n5_ := Aside0.mk (hbox); have n6_ := Aside0.mk ((by rw [hg]; exact (below_size (by repeat (first | (with_reducible first | exact HB.out | apply below_alloc | apply pw_below_drewN | apply below_drew1 | refine below_set ?_ GE168.out) | exact HB.out))) : w.heap.size ≤ gb181)); have n7_ := Aside0.mk ((by rw [hg]; exact (below_size (by repeat (first | (with_reducible first | exact HB.out | apply below_alloc | apply pw_below_drewN | apply below_drew1 | refine below_set ?_ GE168.out) | exact HB.out))) : w.heap.size ≤ gb181)); have n8_ := Aside0.mk ((by rw [hg]; exact Nat.ne_of_lt (blk_lt (g := gb168) (o := .cells #[.bool ((rd_T92 l0 x4_1).f0), u169001] 92 (0, 0)) (by (with_reducible repeat (first | refine blk_drewN ?_ _ | refine blk_drew ?_ | refine blk_alloc ?_ _)); exact BK168.out)) : gb168 ≠ gb181)); have n9_ := Aside0.mk ((by rw [hg]; exact Nat.ne_of_gt (blk_lt (g := gb168) (o := .cells #[.bool ((rd_T92 l0 x4_1).f0), u169001] 92 (0, 0)) (by (with_reducible repeat (first | refine blk_drewN ?_ _ | refine blk_drew ?_ | refine blk_alloc ?_ _)); exact BK168.out)) : gb181 ≠ gb168)); clear HO_3; clear HO_7; clear HO_169001; clear BK168; clear HB; have HO_3 := n0_; have HO_7 := n1_; have HO_169001 := n2_; have BK168 := n3_; have HB := n4_; have BK181 := n5_; have GW181 := n6_; have GE181 := n7_; have NB168_181 := n8_; have NB181_168 := n9_; clear n0_ n1_ n2_ n3_ n4_ n5_ n6_ n7_ n8_ n9_; clear hb hbox hg; have hnb50 := NB181_168.out; have hnc50 := NB168_181.out; have hcz51_0 : w49.cell? ⟨gb181, 0, none⟩ = some (.int .i64 0) := (blk_cell BK181.out 0).trans rfl; have hcz51_1 : w49.cell? ⟨gb181, 1, none⟩ = some (.slice none 0 0) := (blk_cell BK181.out 1).trans rfl; have hfz51_0 := blk_frozen BK181.out 0; have hfz51_1 := blk_frozen BK181.out 1))
                           have n0_ : Aside0 (Kd.R k92 92 ((w49.setCell ⟨gb181, 0, none⟩ (.int .i64 ((rd_T96 (rd_L7 ((rd_T92 l0 x4_1).f1) x6_3) x8_5).f0))).setCell ⟨gb181, 1, none⟩ (.slice A180_1 ((rd_T96 (rd_L7 ((rd_T92 l0 x4_1).f1) x6_3) x8_5).f1).length c180_1)) w.heap.size (fun k_ => some k_ ≠ (u7 : Value).ownBlock ∧ some k_ ≠ (u169001 : Value).ownBlock ∧ k_ ≠ gb168 ∧ k_ ≠ gb181) u3 x3_1) := ⟨by (with_reducible repeat (first | apply Kd.R_alloc | apply Kd.R_drewN | apply Kd.R_drew)); exact Kd.R_mono (Kd.R_far (p := ⟨gb181, 1, none⟩) (Kd.R_far (p := ⟨gb181, 0, none⟩) (Kd.R_mono HO_3.out (fun k_ hk => (⟨hk, hk.2⟩ : _ ∧ k_ ≠ gb181))) (fun _ hk => hk.2) (.int .i64 ((rd_T96 (rd_L7 ((rd_T92 l0 x4_1).f1) x6_3) x8_5).f0))) (fun _ hk => hk.2) (.slice A180_1 ((rd_T96 (rd_L7 ((rd_T92 l0 x4_1).f1) x6_3) x8_5).f1).length c180_1)) (fun _ hk => ⟨hk.1.1.1, ⟨hk.1.1.2.1, ⟨hk.1.1.2.2, hk.1.2⟩⟩⟩)⟩
                           have n1_ : Aside0 (Kd.S k96 96 ((w49.setCell ⟨gb181, 0, none⟩ (.int .i64 ((rd_T96 (rd_L7 ((rd_T92 l0 x4_1).f1) x6_3) x8_5).f0))).setCell ⟨gb181, 1, none⟩ (.slice A180_1 ((rd_T96 (rd_L7 ((rd_T92 l0 x4_1).f1) x6_3) x8_5).f1).length c180_1)) w.heap.size (fun k_ => k_ ≠ gb181) u7 x7_5) := ⟨by (with_reducible repeat (first | apply Kd.S_alloc | apply Kd.S_drewN | apply Kd.S_drew)); exact Kd.S_mono (Kd.S_far (p := ⟨gb181, 1, none⟩) (Kd.S_far (p := ⟨gb181, 0, none⟩) (Kd.S_mono HO_7.out (fun k_ hk => (⟨hk, hk.2⟩ : _ ∧ k_ ≠ gb181))) (fun _ hk => hk.2) (.int .i64 ((rd_T96 (rd_L7 ((rd_T92 l0 x4_1).f1) x6_3) x8_5).f0))) (fun _ hk => hk.2) (.slice A180_1 ((rd_T96 (rd_L7 ((rd_T92 l0 x4_1).f1) x6_3) x8_5).f1).length c180_1)) (fun _ hk => hk.1.2)⟩
                           have n2_ : Aside0 (Kd.R (Kd.slice 96 k96) 93 ((w49.setCell ⟨gb181, 0, none⟩ (.int .i64 ((rd_T96 (rd_L7 ((rd_T92 l0 x4_1).f1) x6_3) x8_5).f0))).setCell ⟨gb181, 1, none⟩ (.slice A180_1 ((rd_T96 (rd_L7 ((rd_T92 l0 x4_1).f1) x6_3) x8_5).f1).length c180_1)) w.heap.size (fun k_ => some k_ ≠ (u7 : Value).ownBlock ∧ k_ ≠ gb181) u169001 x169001_3) := ⟨by (with_reducible repeat (first | apply Kd.R_alloc | apply Kd.R_drewN | apply Kd.R_drew)); exact Kd.R_mono (Kd.R_far (p := ⟨gb181, 1, none⟩) (Kd.R_far (p := ⟨gb181, 0, none⟩) (Kd.R_mono HO_169001.out (fun k_ hk => (⟨hk, hk.2⟩ : _ ∧ k_ ≠ gb181))) (fun _ hk => hk.2) (.int .i64 ((rd_T96 (rd_L7 ((rd_T92 l0 x4_1).f1) x6_3) x8_5).f0))) (fun _ hk => hk.2) (.slice A180_1 ((rd_T96 (rd_L7 ((rd_T92 l0 x4_1).f1) x6_3) x8_5).f1).length c180_1)) (fun _ hk => ⟨hk.1.1, hk.1.2⟩)⟩
                           have n3_ : Aside0 (((w49.setCell ⟨gb181, 0, none⟩ (.int .i64 ((rd_T96 (rd_L7 ((rd_T92 l0 x4_1).f1) x6_3) x8_5).f0))).setCell ⟨gb181, 1, none⟩ (.slice A180_1 ((rd_T96 (rd_L7 ((rd_T92 l0 x4_1).f1) x6_3) x8_5).f1).length c180_1)).heap[gb168]? = some (.cells #[.bool ((rd_T92 l0 x4_1).f0), u169001] 92 (0, 0))) := ⟨by (with_reducible repeat (first | refine blk_drewN ?_ _ | refine blk_drew ?_ | refine blk_alloc ?_ _)); refine blk_far ?_ NB168_181.out _; (with_reducible repeat (first | refine blk_drewN ?_ _ | refine blk_drew ?_ | refine blk_alloc ?_ _)); refine blk_far ?_ NB168_181.out _; (with_reducible repeat (first | refine blk_drewN ?_ _ | refine blk_drew ?_ | refine blk_alloc ?_ _)); exact BK168.out⟩
                           have n4_ : Aside0 (((w49.setCell ⟨gb181, 0, none⟩ (.int .i64 ((rd_T96 (rd_L7 ((rd_T92 l0 x4_1).f1) x6_3) x8_5).f0))).setCell ⟨gb181, 1, none⟩ (.slice A180_1 ((rd_T96 (rd_L7 ((rd_T92 l0 x4_1).f1) x6_3) x8_5).f1).length c180_1)).heap[gb181]? = some (.cells #[.int .i64 ((rd_T96 (rd_L7 ((rd_T92 l0 x4_1).f1) x6_3) x8_5).f0), .slice A180_1 ((rd_T96 (rd_L7 ((rd_T92 l0 x4_1).f1) x6_3) x8_5).f1).length c180_1] 96 (0, 0))) := ⟨by (with_reducible repeat (first | refine blk_drewN ?_ _ | refine blk_drew ?_ | refine blk_alloc ?_ _)); refine blk_put (cs := #[.int .i64 ((rd_T96 (rd_L7 ((rd_T92 l0 x4_1).f1) x6_3) x8_5).f0), .slice none 0 0]) ?_ 1 _ rfl; (with_reducible repeat (first | refine blk_drewN ?_ _ | refine blk_drew ?_ | refine blk_alloc ?_ _)); refine blk_put (cs := #[.int .i64 0, .slice none 0 0]) ?_ 0 _ rfl; (with_reducible repeat (first | refine blk_drewN ?_ _ | refine blk_drew ?_ | refine blk_alloc ?_ _)); exact BK181.out⟩
                           have n5_ : Aside0 (Below w.heap.size w ((w49.setCell ⟨gb181, 0, none⟩ (.int .i64 ((rd_T96 (rd_L7 ((rd_T92 l0 x4_1).f1) x6_3) x8_5).f0))).setCell ⟨gb181, 1, none⟩ (.slice A180_1 ((rd_T96 (rd_L7 ((rd_T92 l0 x4_1).f1) x6_3) x8_5).f1).length c180_1))) := ⟨by repeat (first | (with_reducible first | exact HB.out | apply below_alloc | apply pw_below_drewN | apply below_drew1 | refine below_set ?_ GE168.out | refine below_set ?_ GE181.out) | exact HB.out)⟩
                           (try clear HO_3); (try clear HO_7); (try clear HO_169001); (try clear BK168); (try clear BK181); (try clear HB)
                           generalize ((w49.setCell ⟨gb181, 0, none⟩ (.int .i64 ((rd_T96 (rd_L7 ((rd_T92 l0 x4_1).f1) x6_3) x8_5).f0))).setCell ⟨gb181, 1, none⟩ (.slice A180_1 ((rd_T96 (rd_L7 ((rd_T92 l0 x4_1).f1) x6_3) x8_5).f1).length c180_1)) = w52 at n0_ n1_ n2_ n3_ n4_ n5_ ⊢
                           have HO_3 := n0_; have HO_7 := n1_
                           have HO_169001 := n2_; have BK168 := n3_
                           have BK181 := n4_; have HB := n5_
                           clear n0_ n1_ n2_ n3_ n4_ n5_
                           have n0_ := Aside0.mk (Kd.R_drew HO_3.out)
                           have n1_ := Aside0.mk (Kd.S_drew HO_7.out)
                           have n2_ := Aside0.mk (Kd.R_drew HO_169001.out)
                           have n3_ := Aside0.mk (blk_drew BK168.out)
                           have n4_ := Aside0.mk (blk_drew BK181.out)
                           have n5_ := Aside0.mk (below_drew1 HB.out)
                           clear HO_3; clear HO_7; clear HO_169001; clear BK168; clear BK181; clear HB; have HO_3 := n0_; have HO_7 := n1_; have HO_169001 := n2_; have BK168 := n3_; have BK181 := n4_; have HB := n5_; clear n0_ n1_ n2_ n3_ n4_ n5_
                           refine start_ (n := 10) (S := fun w' => w'.cell? ⟨gb181, 0, none⟩ = some (.int .i64 ((rd_T96 (rd_L7 ((rd_T92 l0 x4_1).f1) x6_3) x8_5).f0)) ∧ w'.cell? ⟨gb181, 1, none⟩ = some (.slice A180_1 ((rd_T96 (rd_L7 ((rd_T92 l0 x4_1).f1) x6_3) x8_5).f1).length c180_1)) (ds := []) #[false, false, false, false, false, false, false, false, false, false] (by kernel_rfl) rfl rfl ⟨(blk_cell BK181.out 0).trans rfl, (blk_cell BK181.out 1).trans rfl⟩ (fun hHeld => ?_); refine with_tabW logjamlaw26_Own.tab17 logjamlaw26_Own.bits17 (fun HT_ HW_ => ?_)
                           generalize w52.drew = w53 at HO_3 HO_7 HO_169001 BK168 BK181 HB hHeld ⊢
                           refine pure_ (i := 0) (N := some 78) (v := ?_) (a' := ?_) #[true, false, false, false, false, false, false, false, false, false] rfl rfl (any_of HT_.out (by kernel_rfl)) (fun _ _ _ h => h) (Or.inl ⟨by rfl, ?_⟩) ?_ ?_
                           rotate_left
                           ·intro w'
                            go_simp
                            with_reducible rfl
                           rotate_left
                           ·simp only [Act.put, List.setIfInBounds_toArray, List.set_cons_zero, List.set_cons_succ, i64_w, i32_w]
                            rfl
                           refine pure_ (i := 1) (N := some 79) (v := ?_) (a' := ?_) #[true, true, false, false, false, false, false, false, false, false] rfl rfl (any_of HT_.out (by kernel_rfl)) (fun _ _ _ h => h) (Or.inl ⟨by rfl, ?_⟩) ?_ ?_
                           rotate_left
                           ·intro w'
                            go_simp
                            with_reducible rfl
                           rotate_left
                           ·simp only [Act.put, List.setIfInBounds_toArray, List.set_cons_zero, List.set_cons_succ, i64_w, i32_w]
                            rfl
                           refine pure_ (i := 4) (N := some 82) (v := ?_) (a' := ?_) #[true, true, false, false, true, false, false, false, false, false] rfl rfl (any_of HT_.out (by kernel_rfl)) (fun _ _ _ h => h) (Or.inl ⟨by rfl, ?_⟩) ?_ ?_
                           rotate_left
                           ·intro w'
                            go_simp
                            with_reducible rfl
                           rotate_left
                           ·simp only [Act.put, List.setIfInBounds_toArray, List.set_cons_zero, List.set_cons_succ, i64_w, i32_w]
                            rfl
                           refine take_ (i := 2) (N := some 80) (v := ?_) (a' := ?_) #[true, true, true, false, true, false, false, false, false, false] rfl rfl (take_ofW HT_.out HW_.out (by kernel_rfl)) (fun _ _ _ h => h) (Or.inl ⟨by rfl, ?_⟩) hHeld ?_ ?_
                           rotate_left
                           ·rintro w' ⟨s0, s1⟩
                            go_simp
                            with_reducible rfl
                           rotate_left
                           ·simp only [Act.put, List.setIfInBounds_toArray, List.set_cons_zero, List.set_cons_succ, i64_w, i32_w]
                            rfl
                           refine one_ (i := 3) (N := some 81) #[true, true, true, true, true, false, false, false, false, false] rfl rfl (one_of HT_.out (by kernel_rfl)) (by decide) (fun K hK => ?_)
                           refine Kd.R_lit_step k108 _ 108 ?hg (N := 81) ?hd (xs := ([] : List (S108))) (inner := []) (ok := fun _ => True) (okp := fun _ => True) ?hr ?hp (fun _ hk => hk) trivial (Below.refl _ _) (Nat.le_refl _) (by simp) ?_; (case hd => rfl); (case hg => rfl); (case hr => first | (go_simp; done) | (go_simp; rfl)); (case hp => exact (Reps.none _ _))
                           intro v196 w54 ho55 hb hg_ hnew_
                           clear hg_ hnew_
                           (first | rw [← Ny195.out] at ho55 | (simp only [Int.reduceToNat] at ho55; rw [← Ny195.out] at ho55))
                           have n0_ := Aside0.mk (Kd.R_elder' (by (with_reducible repeat (first | apply Kd.R_alloc | apply Kd.R_drewN | apply Kd.R_drew)); exact HO_3.out) (Kd.R_base ho55) hb)
                           have n1_ := Aside0.mk (Kd.S_elder' (by (with_reducible repeat (first | apply Kd.S_alloc | apply Kd.S_drewN | apply Kd.S_drew)); exact HO_7.out) (Kd.R_base ho55) hb)
                           have n2_ := Aside0.mk (Kd.R_elder' (by (with_reducible repeat (first | apply Kd.R_alloc | apply Kd.R_drewN | apply Kd.R_drew)); exact HO_169001.out) (Kd.R_base ho55) hb)
                           have n3_ := Aside0.mk (Kd.R_lower ho55 (below_size (by repeat (first | (with_reducible first | exact HB.out | apply below_alloc | apply pw_below_drewN | apply below_drew1 | refine below_set ?_ GE168.out | refine below_set ?_ GE181.out) | exact HB.out))))
                           have n4_ := Aside0.mk (blk_below (g := gb168) (o := .cells #[.bool ((rd_T92 l0 x4_1).f0), u169001] 92 (0, 0)) (by (with_reducible repeat (first | refine blk_drewN ?_ _ | refine blk_drew ?_ | refine blk_alloc ?_ _)); exact BK168.out) hb)
                           have n5_ := Aside0.mk (blk_below (g := gb181) (o := .cells #[.int .i64 ((rd_T96 (rd_L7 ((rd_T92 l0 x4_1).f1) x6_3) x8_5).f0), .slice A180_1 ((rd_T96 (rd_L7 ((rd_T92 l0 x4_1).f1) x6_3) x8_5).f1).length c180_1] 96 (0, 0)) (by (with_reducible repeat (first | refine blk_drewN ?_ _ | refine blk_drew ?_ | refine blk_alloc ?_ _)); exact BK181.out) hb)
                           have n6_ := Aside0.mk (below_step (by repeat (first | (with_reducible first | exact HB.out | apply below_alloc | apply pw_below_drewN | apply below_drew1 | refine below_set ?_ GE168.out | refine below_set ?_ GE181.out) | exact HB.out)) hb)
                           clear HO_3; clear HO_7; clear HO_169001; clear BK168; clear BK181; clear HB; have HO_3 := n0_; have HO_7 := n1_; have HO_169001 := n2_; have HO197 := n3_; have BK168 := n4_; have BK181 := n5_; have HB := n6_; clear n0_ n1_ n2_ n3_ n4_ n5_ n6_; clear hb ho55
                           refine hK.out _ _ ⟨(blk_cell BK181.out 0).trans rfl, (blk_cell BK181.out 1).trans rfl⟩ (fun hHeld => ?_)
                           clear hK K
                           refine norm_ (a' := ?_) ?_ ?_
                           rotate_left
                           ·show Act.put _ (some 81) _ = _
                            simp only [Act.put, List.setIfInBounds_toArray, List.set_cons_zero, List.set_cons_succ, i64_w, i32_w]
                            rfl
                           refine one_ (i := 5) (N := some 83) #[true, true, true, true, true, true, false, false, false, false] rfl rfl (one_of HT_.out (by kernel_rfl)) (by decide) (fun K hK => ?_)
                           refine Kd.R_append_rows_step k108 (w0 := w) w.heap.size (by rfl) (.tmp 81) (.tmp 82) 94 108 (.agg #[(.int .i64 0), (.int .i64 0)]) 16 rfl Tryd.underlying94 info108 rfl (by decide) (by omega) v196 y195 ((rd_T96 (rd_L7 ((rd_T92 l0 x4_1).f1) x6_3) x8_5).f1) _ _ _ (fun _ => True) (fun _ => False) rfl rfl ?aO ?aR (fun _ _ h => h) (fun _ h => h.elim) ?aF ?aB ?aS ?aL ?_
                           (case aR => repeat (first | exact (Kd.C_below HR180_1.out HB.out) | (with_reducible refine Kd.C_alloc ?_ _) | (with_reducible refine Kd.C_drewN ?_ _) | (with_reducible refine Kd.C_drew ?_)))
                           (case aB => exact (by repeat (first | (with_reducible first | exact HB.out | apply below_alloc | apply pw_below_drewN | apply below_drew1 | refine below_set ?_ GE168.out | refine below_set ?_ GE181.out) | exact HB.out)))
                           (case aF => exact (fun _ _ => trivial))
                           (case aO => exact (by (with_reducible repeat (first | apply Kd.R_alloc | apply Kd.R_drewN | apply Kd.R_drew)); exact HO197.out))
                           (case aS => exact (below_size (by repeat (first | (with_reducible first | exact HB.out | apply below_alloc | apply pw_below_drewN | apply below_drew1 | refine below_set ?_ GE168.out | refine below_set ?_ GE181.out) | exact HB.out))))
                           (case aL => have := LMc47.out; omega)
                           intro v199 w56 ho hb hg hat
                           rw [← Ny198.out] at ho
                           have n0_ := Aside0.mk (Kd.R_after (ok := (fun k_ => some k_ ≠ (u7 : Value).ownBlock ∧ some k_ ≠ (u169001 : Value).ownBlock ∧ k_ ≠ gb168 ∧ k_ ≠ gb181)) (by (with_reducible repeat (first | apply Kd.R_alloc | apply Kd.R_drewN | apply Kd.R_drew)); exact HO_3.out) hg hat)
                           have n1_ := Aside0.mk (Kd.S_after (ok := (fun k_ => k_ ≠ gb181)) (by (with_reducible repeat (first | apply Kd.S_alloc | apply Kd.S_drewN | apply Kd.S_drew)); exact HO_7.out) hg hat)
                           have n2_ := Aside0.mk (Kd.R_after (ok := (fun k_ => some k_ ≠ (u7 : Value).ownBlock ∧ k_ ≠ gb181)) (by (with_reducible repeat (first | apply Kd.R_alloc | apply Kd.R_drewN | apply Kd.R_drew)); exact HO_169001.out) hg hat)
                           have n3_ := Aside0.mk (blk_grown (g := gb168) (o := .cells #[.bool ((rd_T92 l0 x4_1).f0), u169001] 92 (0, 0)) (by (with_reducible repeat (first | refine blk_drewN ?_ _ | refine blk_drew ?_ | refine blk_alloc ?_ _)); exact BK168.out) hg (Kd.R_ne HO197.out BK168.out (by decide)))
                           have n4_ := Aside0.mk (blk_grown (g := gb181) (o := .cells #[.int .i64 ((rd_T96 (rd_L7 ((rd_T92 l0 x4_1).f1) x6_3) x8_5).f0), .slice A180_1 ((rd_T96 (rd_L7 ((rd_T92 l0 x4_1).f1) x6_3) x8_5).f1).length c180_1] 96 (0, 0)) (by (with_reducible repeat (first | refine blk_drewN ?_ _ | refine blk_drew ?_ | refine blk_alloc ?_ _)); exact BK181.out) hg (Kd.R_ne HO197.out BK181.out (by decide)))
                           have n5_ := Aside0.mk (hb)
                           have n6_ := Aside0.mk (ho)
                           clear HO_3; clear HO_7; clear HO_169001; clear BK168; clear BK181; clear HB; clear HO197; have HO_3 := n0_; have HO_7 := n1_; have HO_169001 := n2_; have BK168 := n3_; have BK181 := n4_; have HB := n5_; have HO200 := n6_; clear n0_ n1_ n2_ n3_ n4_ n5_ n6_; clear ho hb hg hat
                           obtain ⟨Ao57, co57, eo57⟩ := Kd.R_slice HO200.out
                           (first | subst eo57 | (injection eo57 with f1_ f2_ f3_; have f4_ := f1_.symm; have f5_ := f3_.symm; clear f1_ f2_ f3_; subst f4_; subst f5_))
                           refine hK.out _ _ ⟨(blk_cell BK181.out 0).trans rfl, (blk_cell BK181.out 1).trans rfl⟩ (fun hHeld => ?_)
                           clear hK K
                           refine norm_ (a' := ?_) ?_ ?_
                           rotate_left
                           ·show Act.put _ (some 83) _ = _
                            simp only [Act.put, List.setIfInBounds_toArray, List.set_cons_zero, List.set_cons_succ, i64_w, i32_w]
                            rfl
                           refine pure_ (i := 6) (N := some 84) (v := ?_) (a' := ?_) #[true, true, true, true, true, true, true, false, false, false] rfl rfl (any_of HT_.out (by kernel_rfl)) (fun _ _ _ h => h) (Or.inl ⟨by rfl, ?_⟩) ?_ ?_
                           rotate_left
                           ·intro w'
                            go_simp
                            with_reducible rfl
                           rotate_left
                           ·simp only [Act.put, List.setIfInBounds_toArray, List.set_cons_zero, List.set_cons_succ, i64_w, i32_w]
                            rfl
                           refine one_ (i := 7) (N := some 85) #[true, true, true, true, true, true, true, true, false, false] rfl rfl (one_of HT_.out (by kernel_rfl)) (by decide) (fun K hK => ?_)
                           refine value_ (w1 := ?_) (v := ?_) (by rfl) rfl ?_ ?_
                           rotate_left 2
                           ·go_simp
                            constructor
                            ·rfl
                            ·rfl
                           refine hK.out _ _ ⟨(blk_cell (blk_alloc BK181.out _) 0).trans rfl, (blk_cell (blk_alloc BK181.out _) 1).trans rfl⟩ (fun hHeld => ?_)
                           clear hK K
                           refine norm_ (a' := ?_) ?_ ?_
                           rotate_left
                           ·show Act.put _ (some 85) _ = _
                            simp only [Act.put, List.setIfInBounds_toArray, List.set_cons_zero, List.set_cons_succ, i64_w, i32_w]
                            rfl
                           refine one_ (i := 8) (N := some 86) #[true, true, true, true, true, true, true, true, true, false] rfl rfl (one_of HT_.out (by kernel_rfl)) (by decide) (fun K hK => ?_)
                           refine Kd.S_append_step k96 (w0 := w) w.heap.size (by rfl) (.tmp 78) (.tmp 85) 93 96 (.agg #[(.int .i64 0), (.slice none 0 0)]) 32 rfl Tryd.underlying93 info96 rfl (by decide) (by omega) u7 x7_5 (⟨(rd_T96 (rd_L7 ((rd_T92 l0 x4_1).f1) x6_3) x8_5).f0, y198⟩ : S96) [.int .i64 ((rd_T96 (rd_L7 ((rd_T92 l0 x4_1).f1) x6_3) x8_5).f0), .slice Ao57 y198.length co57] (fun k_ => k_ ≠ gb181) (fun k_ => some k_ = (.slice Ao57 y198.length co57 : Value).ownBlock) rfl rfl ?aP (fun k_ hk_ => ((Kd.R_mono (ok' := fun k_ => ((fun k_ => k_ ≠ gb181)) k_ ∧ some k_ ≠ (u7 : Value).ownBlock) (Kd.R_types (Kd.R_apart' (HO200.out) (Kd.S_typed HO_7.out) (by decide)) BK181.out (by decide)) (fun k_ hk => ⟨hk.2, hk.1.2⟩))).1 k_ hk_.symm) ?aF ?aO ?aB ?aS ?aL ?_
                           (case aP => exact k96_mkM _ _ _ (⟨(rd_T96 (rd_L7 ((rd_T92 l0 x4_1).f1) x6_3) x8_5).f0, y198⟩ : S96) (Kd.R_mono (Kd.R_tight rfl (Kd.R_mono (ok' := fun k_ => ((fun k_ => k_ ≠ gb181)) k_ ∧ some k_ ≠ (u7 : Value).ownBlock) (Kd.R_types (Kd.R_apart' (HO200.out) (Kd.S_typed HO_7.out) (by decide)) BK181.out (by decide)) (fun k_ hk => ⟨hk.2, hk.1.2⟩))) (fun _ h_ => h_)))
                           (case aB => exact (by repeat (first | (with_reducible first | exact HB.out | apply below_alloc | apply pw_below_drewN | apply below_drew1 | refine below_set ?_ GE168.out | refine below_set ?_ GE181.out) | exact HB.out)))
                           (case aF => exact (fun k_ hk => Kd.freshB (g := gb181) (o := .cells #[.int .i64 ((rd_T96 (rd_L7 ((rd_T92 l0 x4_1).f1) x6_3) x8_5).f0), .slice A180_1 ((rd_T96 (rd_L7 ((rd_T92 l0 x4_1).f1) x6_3) x8_5).f1).length c180_1] 96 (0, 0)) (by (with_reducible repeat (first | refine blk_drewN ?_ _ | refine blk_drew ?_ | refine blk_alloc ?_ _)); exact BK181.out) k_ hk))
                           (case aO => exact (by (with_reducible repeat (first | apply Kd.S_alloc | apply Kd.S_drewN | apply Kd.S_drew)); exact Kd.S_mono HO_7.out (fun k_ hk => ⟨hk.1, fun e_ => hk.2 e_⟩)))
                           (case aS => exact (below_size (by repeat (first | (with_reducible first | exact HB.out | apply below_alloc | apply pw_below_drewN | apply below_drew1 | refine below_set ?_ GE168.out | refine below_set ?_ GE181.out) | exact HB.out))))
                           (case aL => have := LMc48.out; omega)
                           intro v202 w58 ho hb hg hat
                           rw [← Ny201.out] at ho
                           have n0_ := Aside0.mk (Kd.R_after (ok := (fun k_ => some k_ ≠ (u169001 : Value).ownBlock ∧ some k_ ≠ (.slice Ao57 y198.length co57 : Value).ownBlock ∧ k_ ≠ gb168 ∧ k_ ≠ gb181)) (by (with_reducible repeat (first | apply Kd.R_alloc | apply Kd.R_drewN | apply Kd.R_drew)); exact Kd.R_mono HO_3.out (fun _ hk => ⟨⟨hk.1.2.1, ⟨hk.2, ⟨hk.1.2.2.1, hk.1.2.2.2⟩⟩⟩, hk.1.1⟩)) hg hat)
                           have n1_ := Aside0.mk (Kd.R_after (ok := (fun k_ => some k_ ≠ (.slice Ao57 y198.length co57 : Value).ownBlock ∧ k_ ≠ gb181)) (by (with_reducible repeat (first | apply Kd.R_alloc | apply Kd.R_drewN | apply Kd.R_drew)); exact Kd.R_mono HO_169001.out (fun _ hk => ⟨⟨hk.2, hk.1.2⟩, hk.1.1⟩)) hg hat)
                           have n2_ := Aside0.mk (blk_grown (g := gb168) (o := .cells #[.bool ((rd_T92 l0 x4_1).f0), u169001] 92 (0, 0)) (by (with_reducible repeat (first | refine blk_drewN ?_ _ | refine blk_drew ?_ | refine blk_alloc ?_ _)); exact BK168.out) hg (Kd.S_ne HO_7.out BK168.out (by decide)))
                           have n3_ := Aside0.mk (blk_grown (g := gb181) (o := .cells #[.int .i64 ((rd_T96 (rd_L7 ((rd_T92 l0 x4_1).f1) x6_3) x8_5).f0), .slice A180_1 ((rd_T96 (rd_L7 ((rd_T92 l0 x4_1).f1) x6_3) x8_5).f1).length c180_1] 96 (0, 0)) (by (with_reducible repeat (first | refine blk_drewN ?_ _ | refine blk_drew ?_ | refine blk_alloc ?_ _)); exact BK181.out) hg (Kd.S_away HO_7.out (fun _ hk => hk.1)))
                           have n4_ := Aside0.mk (hb)
                           have n5_ := Aside0.mk (ho)
                           clear HO_3; clear HO_169001; clear BK168; clear BK181; clear HB; clear HO_7; clear HO200; have HO_3 := n0_; have HO_169001 := n1_; have BK168 := n2_; have BK181 := n3_; have HB := n4_; have HO203 := n5_; clear n0_ n1_ n2_ n3_ n4_ n5_; clear ho hb hg hat
                           refine hK.out _ _ ⟨(blk_cell BK181.out 0).trans rfl, (blk_cell BK181.out 1).trans rfl⟩ (fun hHeld => ?_)
                           clear hK K
                           refine norm_ (a' := ?_) ?_ ?_
                           rotate_left
                           ·show Act.put _ (some 86) _ = _
                            simp only [Act.put, List.setIfInBounds_toArray, List.set_cons_zero, List.set_cons_succ, i64_w, i32_w]
                            rfl
                           refine pure_ (i := 9) (N := some 7) (v := ?_) (a' := ?_) #[true, true, true, true, true, true, true, true, true, true] rfl rfl (any_of HT_.out (by kernel_rfl)) (fun _ _ _ h => h) (Or.inl ⟨by rfl, ?_⟩) ?_ ?_
                           rotate_left
                           ·intro w'
                            go_simp
                            with_reducible rfl
                           rotate_left
                           ·simp only [Act.put, List.setIfInBounds_toArray, List.set_cons_zero, List.set_cons_succ, i64_w, i32_w]
                            rfl
                           refine done_ (done_of HT_.out (by kernel_rfl)) ?_
                           try go_wp2
                           go_roundg kj17
                           case measure => have := HK1.out; have := HJ3.out; have := HK3.out; have := HJ10.out; have := HK5.out; have := HJ17.out; omega
                           case rel => exact ⟨(y201), (wrap64 (x8_5 + 1)), (by first | rfl | (simp; done) | (simp only [emptyNe_, emptyEq_]; done) | (simp [*]; done)), H', ⟨by have := HK1.out; have := HJ3.out; have := HK3.out; have := HJ10.out; have := HK5.out; have := HJ17.out; omega⟩, ⟨by (with_reducible repeat (first | apply Kd.R_alloc | apply Kd.R_drewN | apply Kd.R_drew)); exact Kd.R_mono HO_3.out (fun _ hk => ⟨hk.2, ⟨hk.1.1, hk.1.2.2.1⟩⟩)⟩, ⟨by (with_reducible repeat (first | apply Kd.S_alloc | apply Kd.S_drewN | apply Kd.S_drew)); exact Kd.S_mono HO203.out (fun _ hk => trivial)⟩, ⟨by (with_reducible repeat (first | apply Kd.R_alloc | apply Kd.R_drewN | apply Kd.R_drew)); exact Kd.R_mono HO_169001.out (fun _ hk => hk.2)⟩, ⟨by (with_reducible repeat (first | refine blk_drewN ?_ _ | refine blk_drew ?_ | refine blk_alloc ?_ _)); exact BK168.out⟩, ⟨by repeat (first | (with_reducible first | exact HB.out | apply below_alloc | apply pw_below_drewN | apply below_drew1 | refine below_set ?_ GE168.out | refine below_set ?_ GE181.out) | exact HB.out)⟩⟩
                          ·rw [if_neg c48] at H
                           exact absurd H (by simp)
                         ·rw [if_neg c47] at H
                          exact absurd H (by simp)
                       ·rw [if_neg c30] at H
                        exact absurd H (by simp)
                      ·rw [if_neg c29] at H
                       exact absurd H (by simp)
                     ·rw [if_neg c28] at H
                      exact absurd H (by simp)
                    ·rw [if_neg c27] at H
                     exact absurd H (by simp)
                   ·rw [if_neg c26] at H
                    exact absurd H (by simp)
                  ·rw [if_neg c25] at H
                   exact absurd H (by simp)
                 ·replace c24 := Bool.eq_false_iff.mpr c24
                  subst c24
                  have H1 : (if x169001_3.length < 5864062014805 then (logjamlaw26_Own.l1 kj17 l0 x3_1 x4_1 (wrap64 (x6_3 + 1)) ((rd_T92 l0 x4_1).f0) (x169001_3 ++ [x7_5])) else (none)) = some r := by rw [if_neg (show ¬ (false = true) by decide)] at H; exact H
                  clear H
                  have H := H1
                  clear H1
                  by_cases c59 : x169001_3.length < 5864062014805
                  ·rw [if_pos c59] at H
                   have LMc59 := Aside0.mk c59
                   clear c59
                   obtain ⟨y204, hy204⟩ : ∃ y_ : List (List (S96)), y_ = (x169001_3 ++ [x7_5]) := ⟨_, rfl⟩
                   replace H : (logjamlaw26_Own.l1 kj17 l0 x3_1 x4_1 (wrap64 (x6_3 + 1)) ((rd_T92 l0 x4_1).f0) y204) = some r := by first | (rw [hy204]; with_reducible exact H) | (have H2_ := (Option.bind_some _ _).symm.trans H; rw [hy204]; with_reducible exact H2_) | (have H2_ := (Option.bind_some _ _).symm.trans H; with_reducible exact H2_) | with_reducible exact H | (rw [hy204]; exact H) | exact H
                   have Ny204 := Aside0.mk hy204
                   clear hy204
                   have H' := Aside0.mk H
                   clear H
                   have hcz60_0 : wc.cell? ⟨gb168, 0, none⟩ = some (.bool ((rd_T92 l0 x4_1).f0)) := (blk_cell BK168.out 0).trans rfl
                   have hcz60_1 : wc.cell? ⟨gb168, 1, none⟩ = some (u169001) := (blk_cell BK168.out 1).trans rfl
                   have hfz60_0 := blk_frozen BK168.out 0
                   have hfz60_1 := blk_frozen BK168.out 1
                   obtain ⟨Ao62, co62, eo62⟩ := Kd.S_slice HO_7.out
                   subst eo62
                   go_wp2_with (first | ((with_reducible refine gate_builtin (b := .append) (xs := #[.tmp 88, .tmp 90]) rfl ?_); at_builtin; refine Kd.R_append (Kd.slice 96 k96) (w0 := w) w.heap.size rfl (.tmp 88) (.tmp 90) 90 93 (.slice none 0 0) 24 rfl Tryd.underlying90 info93 rfl (by decide) (by omega) u169001 x169001_3 x7_5 [.slice Ao62 x7_5.length co62] (fun _ => True) (fun k_ => ((fun _ => True)) k_ ∧ some k_ ≠ (u169001 : Value).ownBlock) rfl rfl ?aP (fun _ hk => hk) ?aF ?aO ?aB ?aS ?aL ?_; (case aP => exact Kd.M_row (Kd.R_mono (Kd.R_apart' ((Kd.S_R HO_7.out)) (Kd.R_typed HO_169001.out) (by decide)) (fun k_ hk => ⟨trivial, hk.2⟩))); (case aB => exact (by repeat (first | (with_reducible first | exact HB.out | apply below_alloc | apply pw_below_drewN | apply below_drew1 | refine below_set ?_ GE168.out) | exact HB.out))); (case aF => exact (fun _ _ => trivial)); (case aO => exact (by (with_reducible repeat (first | apply Kd.R_alloc | apply Kd.R_drewN | apply Kd.R_drew)); exact Kd.R_mono HO_169001.out (fun _ hk => trivial))); (case aS => exact (below_size (by repeat (first | (with_reducible first | exact HB.out | apply below_alloc | apply pw_below_drewN | apply below_drew1 | refine below_set ?_ GE168.out) | exact HB.out)))); (case aL => have := LMc59.out; omega); intro v205 w61 ho hb hg hat; rw [← Ny204.out] at ho; have n0_ := Aside0.mk (Kd.R_after (ok := (fun k_ => some k_ ≠ (.slice Ao62 x7_5.length co62 : Value).ownBlock ∧ k_ ≠ gb168)) (by (with_reducible repeat (first | apply Kd.R_alloc | apply Kd.R_drewN | apply Kd.R_drew)); exact Kd.R_mono HO_3.out (fun _ hk => ⟨⟨hk.1, hk.2.2⟩, hk.2.1⟩)) hg hat); have n1_ := Aside0.mk (blk_grown (g := gb168) (o := .cells #[.bool ((rd_T92 l0 x4_1).f0), u169001] 92 (0, 0)) (by (with_reducible repeat (first | refine blk_drewN ?_ _ | refine blk_drew ?_ | refine blk_alloc ?_ _)); exact BK168.out) hg (Kd.R_ne HO_169001.out BK168.out (by decide))); have n2_ := Aside0.mk (hb); have n3_ := Aside0.mk (ho); clear HO_3; clear BK168; clear HB; clear HO_169001; clear HO_7; have HO_3 := n0_; have BK168 := n1_; have HB := n2_; have HO206 := n3_; clear n0_ n1_ n2_ n3_; clear ho hb hg hat; obtain ⟨Ao63, co63, eo63⟩ := Kd.R_slice HO206.out; subst eo63; have hcz64_0 : w61.cell? ⟨gb168, 0, none⟩ = some (.bool ((rd_T92 l0 x4_1).f0)) := (blk_cell BK168.out 0).trans rfl; have hcz64_1 : w61.cell? ⟨gb168, 1, none⟩ = some (u169001) := (blk_cell BK168.out 1).trans rfl; have hfz64_0 := blk_frozen BK168.out 0; have hfz64_1 := blk_frozen BK168.out 1))
                   go_roundg kj17
                   case measure => have := HK1.out; have := HJ3.out; have := HK3.out; have := HJ10.out; have := HK5.out; have := HJ17.out; omega
                   case rel => exact ⟨(wrap64 (x6_3 + 1)), (y204), (.slice Ao63 y204.length co63), (by first | rfl | (simp; done) | (simp only [emptyNe_, emptyEq_]; done) | (simp [*]; done)), H', ⟨by have := HK1.out; have := HJ3.out; have := HK3.out; have := HJ10.out; have := HK5.out; have := HJ17.out; omega⟩, ⟨by (with_reducible repeat (first | apply Kd.R_alloc | apply Kd.R_drewN | apply Kd.R_drew)); exact Kd.R_mono (Kd.R_far (p := ⟨gb168, 1, none⟩) (Kd.R_mono HO_3.out (fun k_ hk => (⟨hk, hk.1.2⟩ : _ ∧ k_ ≠ gb168))) (fun _ hk => hk.2) (.slice Ao63 y204.length co63)) (fun _ hk => ⟨hk.1.2, hk.1.1.2⟩)⟩, ⟨by (with_reducible repeat (first | apply Kd.R_alloc | apply Kd.R_drewN | apply Kd.R_drew)); exact Kd.R_mono (Kd.R_far (p := ⟨gb168, 1, none⟩) (Kd.R_types HO206.out BK168.out (by decide)) (fun _ hk => hk.2) (.slice Ao63 y204.length co63)) (fun _ hk => trivial)⟩, ⟨by (with_reducible repeat (first | refine blk_drewN ?_ _ | refine blk_drew ?_ | refine blk_alloc ?_ _)); refine blk_put (cs := #[.bool ((rd_T92 l0 x4_1).f0), u169001]) ?_ 1 _ rfl; (with_reducible repeat (first | refine blk_drewN ?_ _ | refine blk_drew ?_ | refine blk_alloc ?_ _)); exact BK168.out⟩, ⟨by repeat (first | (with_reducible first | exact HB.out | apply below_alloc | apply pw_below_drewN | apply below_drew1 | refine below_set ?_ GE168.out) | exact HB.out)⟩⟩
                  ·rw [if_neg c59] at H
                   exact absurd H (by simp)
            ·replace c15 := Bool.eq_false_iff.mpr c15
             subst c15
             have H1 : (if x3_1.length < 4398046511104 then (logjamlaw26_Own.l0 kj10 l0 (x3_1 ++ [(⟨((rd_T92 l0 x4_1).f0), x169001_3⟩ : S92)]) (wrap64 (x4_1 + 1))) else (none)) = some r := by rw [if_neg (show ¬ (false = true) by decide)] at H; exact H
             clear H
             have H := H1
             clear H1
             by_cases c65 : x3_1.length < 4398046511104
             ·rw [if_pos c65] at H
              have LMc65 := Aside0.mk c65
              clear c65
              obtain ⟨y170, hy170⟩ : ∃ y_ : List (S92), y_ = (x3_1 ++ [(⟨((rd_T92 l0 x4_1).f0), x169001_3⟩ : S92)]) := ⟨_, rfl⟩
              replace H : (logjamlaw26_Own.l0 kj10 l0 y170 (wrap64 (x4_1 + 1))) = some r := by first | (rw [hy170]; with_reducible exact H) | (have H2_ := (Option.bind_some _ _).symm.trans H; rw [hy170]; with_reducible exact H2_) | (have H2_ := (Option.bind_some _ _).symm.trans H; with_reducible exact H2_) | with_reducible exact H | (rw [hy170]; exact H) | exact H
              have Ny170 := Aside0.mk hy170
              clear hy170
              have H' := Aside0.mk H
              clear H
              have hcz66_0 : wc.cell? ⟨gb168, 0, none⟩ = some (.bool ((rd_T92 l0 x4_1).f0)) := (blk_cell BK168.out 0).trans rfl
              have hcz66_1 : wc.cell? ⟨gb168, 1, none⟩ = some (u169001) := (blk_cell BK168.out 1).trans rfl
              have hfz66_0 := blk_frozen BK168.out 0
              have hfz66_1 := blk_frozen BK168.out 1
              obtain ⟨Ao68, co68, eo68⟩ := Kd.R_slice HO_169001.out
              subst eo68
              go_wp2_with (first | ((with_reducible refine gate_builtin (b := .append) (xs := #[.tmp 93, .tmp 95]) rfl ?_); at_builtin; refine Kd.R_append k92 (w0 := w) w.heap.size rfl (.tmp 93) (.tmp 95) 23 92 (.agg #[(.bool false), (.slice none 0 0)]) 32 rfl Tryd.underlying23 info92 rfl (by decide) (by omega) u3 x3_1 (⟨((rd_T92 l0 x4_1).f0), x169001_3⟩ : S92) [.bool ((rd_T92 l0 x4_1).f0), .slice Ao68 x169001_3.length co68] (fun k_ => k_ ≠ gb168) (fun k_ => ((fun k_ => k_ ≠ gb168)) k_ ∧ some k_ ≠ (u3 : Value).ownBlock) rfl rfl ?aP (fun _ hk => hk) ?aF ?aO ?aB ?aS ?aL ?_; (case aP => exact k92_mkM _ _ _ (⟨((rd_T92 l0 x4_1).f0), x169001_3⟩ : S92) (Kd.R_mono (Kd.R_types (Kd.R_apart' (HO_169001.out) (Kd.R_typed HO_3.out) (by decide)) BK168.out (by decide)) (fun k_ hk => ⟨hk.2, hk.1.2⟩))); (case aB => exact (by repeat (first | (with_reducible first | exact HB.out | apply below_alloc | apply pw_below_drewN | apply below_drew1 | refine below_set ?_ GE168.out) | exact HB.out))); (case aF => exact (fun k_ hk => Kd.freshB (g := gb168) (o := .cells #[.bool ((rd_T92 l0 x4_1).f0), .slice Ao68 x169001_3.length co68] 92 (0, 0)) (by (with_reducible repeat (first | refine blk_drewN ?_ _ | refine blk_drew ?_ | refine blk_alloc ?_ _)); exact BK168.out) k_ hk)); (case aO => exact (by (with_reducible repeat (first | apply Kd.R_alloc | apply Kd.R_drewN | apply Kd.R_drew)); exact Kd.R_mono HO_3.out (fun _ hk => hk.2))); (case aS => exact (below_size (by repeat (first | (with_reducible first | exact HB.out | apply below_alloc | apply pw_below_drewN | apply below_drew1 | refine below_set ?_ GE168.out) | exact HB.out)))); (case aL => have := LMc65.out; omega); intro v171 w67 ho hb hg hat; rw [← Ny170.out] at ho; have n0_ := Aside0.mk (blk_grown (g := gb168) (o := .cells #[.bool ((rd_T92 l0 x4_1).f0), .slice Ao68 x169001_3.length co68] 92 (0, 0)) (by (with_reducible repeat (first | refine blk_drewN ?_ _ | refine blk_drew ?_ | refine blk_alloc ?_ _)); exact BK168.out) hg (Kd.R_away HO_3.out (fun _ hk => hk.2))); have n1_ := Aside0.mk (hb); have n2_ := Aside0.mk (ho); clear BK168; clear HB; clear HO_3; clear HO_169001; have BK168 := n0_; have HB := n1_; have HO172 := n2_; clear n0_ n1_ n2_; clear ho hb hg hat))
              go_roundg kj10
              case measure => have := HK1.out; have := HJ3.out; have := HK3.out; have := HJ10.out; omega
              case rel => exact ⟨(y170), (wrap64 (x4_1 + 1)), (by first | rfl | (simp; done) | (simp only [emptyNe_, emptyEq_]; done) | (simp [*]; done)), H', ⟨by have := HK1.out; have := HJ3.out; have := HK3.out; have := HJ10.out; omega⟩, ⟨by (with_reducible repeat (first | apply Kd.R_alloc | apply Kd.R_drewN | apply Kd.R_drew)); exact Kd.R_mono HO172.out (fun _ hk => trivial)⟩, ⟨by repeat (first | (with_reducible first | exact HB.out | apply below_alloc | apply pw_below_drewN | apply below_drew1 | refine below_set ?_ GE168.out) | exact HB.out)⟩⟩
             ·rw [if_neg c65] at H
              exact absurd H (by simp)
       ·rw [if_neg c8] at H
        exact absurd H (by simp)
      ·rw [if_neg c7] at H
       exact absurd H (by simp)
     ·replace c6 := Bool.eq_false_iff.mpr c6
      subst c6
      have H1 : (some x3_1) = some r := by rw [if_neg (show ¬ (false = true) by decide)] at H; exact H
      clear H
      have H := H1
      clear H1
      obtain rfl := Option.some.inj H
      go_wp2
      go_ret
      exact ⟨_, by first | rfl | (simp [errW_none, errW_some] <;> rfl) | (simp [*, errW_none, errW_some] <;> rfl), by (with_reducible repeat (first | apply Kd.R_alloc | apply Kd.R_drewN | apply Kd.R_drew)); exact HO_3.out, by repeat (first | (with_reducible first | exact HB.out | apply below_alloc | apply pw_below_drewN | apply below_drew1) | exact HB.out)⟩
end Go.Proofs.YtadepdeckapgcaaDoor.PRp
end

section
namespace Go.Proofs.YtadepdeckapgcaaDoor.Rc
open Go.RowKit Go.Proofs.YtadepdeckapgcaaDoorW.PrintWords Go.Proofs.YtadepdeckapgcaaDoorW.PrintLast Go.Proofs.YtadepdeckapgcaaDoorW.PrintMore Go.Proofs.YtadepdeckapgcaaDoor.PRp Go.Proofs.YtadepdeckapgcaaDoor.Orc
set_option linter.unusedSimpArgs false
set_option linter.unusedVariables false
def ownM (m : NTerm) : NTerm := ⟨m.f0, m.f1.take 70⟩
def ownW (w : List NTerm) : List NTerm := (w.take 6).map ownM
def ownN (x : NNode) : NNode := ⟨x.f0, (x.f1.take 6).map ownW⟩
def ownL (l : List NNode) : List NNode := (l.take 70).map ownN
theorem getD_take {α : Type} (d : α) (l : List α) (n k : Nat) (h : k < n) : (l.take n).getD k d = l.getD k d := by
  rw [List.getD_eq_getElem?_getD, List.getElem?_take, if_pos h, ← List.getD_eq_getElem?_getD]
theorem take_lt {α : Type} (l : List α) (n j d : Nat) (h : j + (d + 1) = (l.take n).length) : j < n ∧ j < l.length ∧ j < (l.take n).length := by
  have := List.length_take (i := n) (l := l)
  omega
theorem ownM_eq (m : NTerm) (f : List NShare) (h : f = m.f1.take 70) : (⟨m.f0, f⟩ : NTerm) = ownM m := by rw [h]; rfl
theorem ev_own_l2 (l out : List NNode) (i a : Nat) (st : Bool) (dn : List (List NTerm)) (r : List NNode) (hi : i < l.length) (ha : a < (rd_T92 l (i : Int)).f1.length) (hm : (rd_T92 l (i : Int)).f1.length ≤ MX) (hdn : dn.length ≤ 6) (hway : Bw (rd_L7 (rd_T92 l (i : Int)).f1 (a : Int))) :
    ∀ (d j : Nat) (acc : List NTerm), j + d = ((rd_L7 (rd_T92 l (i : Int)).f1 (a : Int)).take 6).length → acc.length ≤ j →
      Ev (fun k => logjamlaw26_Own.l1 k l out i ((a + 1 : Nat) : Int) st (dn ++ [acc ++ (((rd_L7 (rd_T92 l (i : Int)).f1 (a : Int)).take 6).drop j).map ownM])) r →
      Ev (fun k => logjamlaw26_Own.l2 k l out i a acc j st dn) r := by
  have hwa := Lib.hid <| wrap_succ a (rd_T92 l (i : Int)).f1.length ha hm
  generalize hW : rd_L7 (rd_T92 l (i : Int)).f1 (a : Int) = way at *
  have htl : (way.take 6).length = min 6 way.length := List.length_take
  intro d
  induction d with
  | zero =>
    intro j acc hj hac h
    rw [List.drop_of_length_le (by omega), List.map_nil, List.append_nil] at h
    have h2 : Ev (fun k => logjamlaw26_Own.j5 k l out i a acc j false st dn) r := by
      refine Ev.step (f := fun k => logjamlaw26_Own.l1 k l out i ((a + 1 : Nat) : Int) st (dn ++ [acc])) (fun k => ?_) h
      simp only [logjamlaw26_Own.j5]
      rw [if_neg (by simp), if_pos (by omega), hwa.out]
    by_cases hjl : j < way.length
    · refine Ev.step (f := fun k => logjamlaw26_Own.j5 k l out i a acc j false st dn) (fun k => ?_) h2
      simp only [logjamlaw26_Own.l2, hW]
      rw [if_pos (by omega), if_pos (by omega), if_pos (by omega), if_pos (by omega), if_pos (by omega), decide_eq_false (by omega)]
    · refine Ev.step (f := fun k => logjamlaw26_Own.j5 k l out i a acc j false st dn) (fun k => ?_) h2
      simp only [logjamlaw26_Own.l2, hW]
      rw [if_pos (by omega), if_pos (by omega), if_pos (by omega), if_pos (by omega), if_neg (by omega)]
  | succ d ih =>
    intro j acc hj hac h
    obtain ⟨hj6, hjl, hjt⟩ := take_lt way 6 j d hj
    have hwj := Lib.hid <| wrap_succ j way.length hjl hway.1
    rw [drop_cons' z96 (way.take 6) j hjt, getD_take z96 way 6 j hj6] at h
    have hrd : rd_T96 way (j : Int) = way.getD j z96 := rfl
    have hmm : (way.getD j z96).f1.length ≤ MX := hway.2 _ (getD_mem z96 way j hjl)
    have h' : Ev (fun k => logjamlaw26_Own.l1 k l out i ((a + 1 : Nat) : Int) st (dn ++ [(acc ++ [ownM (way.getD j z96)]) ++ ((way.take 6).drop (j + 1)).map ownM])) r := by rw [List.append_assoc]; exact h
    have hj1 : j + 1 + d = (way.take 6).length := by rw [← hj]; omega
    have hacc : acc.length ≤ 6 := by omega
    have ih' := ih (j + 1) (acc ++ [ownM (way.getD j z96)]) hj1 (by rw [List.length_append, List.length_singleton]; omega) h'
    generalize way.getD j z96 = m at *
    refine Ev.step (f := fun k => logjamlaw26_Own.j5 k l out i a acc j true st dn) (fun k => ?_) ?_
    · simp only [logjamlaw26_Own.l2, hW]
      rw [if_pos (by omega), if_pos (by omega), if_pos (by omega), if_pos (by omega), if_pos (by omega), decide_eq_true (by omega)]
    refine Ev.step (f := fun k => logjamlaw26_Own.l2 k l out i a (acc ++ [ownM m]) ((j + 1 : Nat) : Int) st dn) (fun k => ?_) ih'
    simp only [logjamlaw26_Own.j5, hW]
    rw [if_pos trivial, if_pos (by omega), if_pos (by omega), if_pos (by omega), if_pos (by omega), if_pos (by omega), if_pos (by omega), hrd, hwj.out]
    by_cases h70 : (m.f1.length : Int) > 70
    · rw [if_pos h70, if_pos (by omega)]
      simp only [Option.bind_some, List.nil_append, List.length_nil, List.length_take]
      rw [if_pos (by omega), if_pos (by omega), ownM_eq m _ rfl]
    · rw [if_neg h70]
      simp only [Option.bind_some, List.nil_append, List.length_nil]
      rw [if_pos (by omega), if_pos (by omega), ownM_eq m _ (List.take_of_length_le (by omega)).symm]
theorem ev_own_l1 (l out : List NNode) (i : Nat) (st : Bool) (r : List NNode) (hi : i < l.length) (hil : l.length ≤ MX) (hout : out.length ≤ 70) (hws : Bws (rd_T92 l (i : Int)).f1) :
    ∀ (d a : Nat) (dn : List (List NTerm)), a + d = ((rd_T92 l (i : Int)).f1.take 6).length → dn.length ≤ a →
      Ev (fun k => logjamlaw26_Own.l0 k l (out ++ [⟨st, dn ++ (((rd_T92 l (i : Int)).f1.take 6).drop a).map ownW⟩]) ((i + 1 : Nat) : Int)) r →
      Ev (fun k => logjamlaw26_Own.l1 k l out i a st dn) r := by
  have hwi := Lib.hid <| wrap_succ i l.length hi hil
  have htl : ((rd_T92 l (i : Int)).f1.take 6).length = min 6 (rd_T92 l (i : Int)).f1.length := List.length_take
  intro d
  induction d with
  | zero =>
    intro a dn hj hac h
    rw [List.drop_of_length_le (by omega), List.map_nil, List.append_nil] at h
    have h2 : Ev (fun k => logjamlaw26_Own.j3 k l out i a false st dn) r := by
      refine Ev.step (f := fun k => logjamlaw26_Own.l0 k l (out ++ [⟨st, dn⟩]) ((i + 1 : Nat) : Int)) (fun k => ?_) h
      simp only [logjamlaw26_Own.j3]
      rw [if_neg (by simp), if_pos (by omega), hwi.out]
    by_cases hjl : a < (rd_T92 l (i : Int)).f1.length
    · refine Ev.step (f := fun k => logjamlaw26_Own.j3 k l out i a false st dn) (fun k => ?_) h2
      simp only [logjamlaw26_Own.l1]
      rw [if_pos (by omega), if_pos (by omega), if_pos (by omega), decide_eq_false (by omega)]
    · refine Ev.step (f := fun k => logjamlaw26_Own.j3 k l out i a false st dn) (fun k => ?_) h2
      simp only [logjamlaw26_Own.l1]
      rw [if_pos (by omega), if_pos (by omega), if_neg (by omega)]
  | succ d ih =>
    intro a dn hj hac h
    obtain ⟨ha6, hal, hat⟩ := take_lt (rd_T92 l (i : Int)).f1 6 a d hj
    rw [drop_cons' [] ((rd_T92 l (i : Int)).f1.take 6) a hat, getD_take _ _ _ _ ha6] at h
    have hrd : rd_L7 (rd_T92 l (i : Int)).f1 (a : Int) = (rd_T92 l (i : Int)).f1.getD a [] := rfl
    have ih' := ih (a + 1) (dn ++ [ownW (rd_L7 (rd_T92 l (i : Int)).f1 (a : Int))]) (by omega) (by rw [List.length_append, List.length_singleton]; omega) (by rw [hrd, List.append_assoc]; exact h)
    refine Ev.step (f := fun k => logjamlaw26_Own.j3 k l out i a true st dn) (fun k => ?_) ?_
    · simp only [logjamlaw26_Own.l1]
      rw [if_pos (by omega), if_pos (by omega), if_pos (by omega), decide_eq_true (by omega)]
    refine Ev.step (f := fun k => logjamlaw26_Own.l2 k l out i a [] ((0 : Nat) : Int) st dn) (fun k => by simp only [logjamlaw26_Own.j3]; rw [if_pos trivial]; rfl) ?_
    refine ev_own_l2 l out i a st dn r hi hal hws.1 (by omega) (hws.2 _ (getD_mem [] _ a hal)) ((rd_L7 (rd_T92 l (i : Int)).f1 (a : Int)).take 6).length 0 [] (Nat.zero_add _) (Nat.le_refl _) ?_
    exact ih'
theorem ev_own_l0 (l : List NNode) (hb : Bns l) : ∀ (d i : Nat) (out : List NNode), i + d = (l.take 70).length → out.length ≤ i → Ev (fun k => logjamlaw26_Own.l0 k l out i) (out ++ ((l.take 70).drop i).map ownN) := by
  have htl : (l.take 70).length = min 70 l.length := List.length_take
  intro d
  induction d with
  | zero =>
    intro i out hi ho
    rw [List.drop_of_length_le (by omega), List.map_nil, List.append_nil]
    have h2 : Ev (fun k => logjamlaw26_Own.j1 k l out i false) out := Ev.step (f := fun _ => some out) (fun k => by simp only [logjamlaw26_Own.j1]; rw [if_neg (by simp)]) (Ev.now _)
    by_cases hil : i < l.length
    · exact Ev.step (f := fun k => logjamlaw26_Own.j1 k l out i false) (fun k => by simp only [logjamlaw26_Own.l0]; rw [if_pos (by omega), decide_eq_false (by omega)]) h2
    · exact Ev.step (f := fun k => logjamlaw26_Own.j1 k l out i false) (fun k => by simp only [logjamlaw26_Own.l0]; rw [if_neg (by omega)]) h2
  | succ d ih =>
    intro i out hi ho
    obtain ⟨hi7, hil, hit⟩ := take_lt l 70 i d hi
    rw [drop_cons' z92 (l.take 70) i hit, getD_take _ _ _ _ hi7]
    have hrd : rd_T92 l (i : Int) = l.getD i z92 := rfl
    have ih' := ih (i + 1) (out ++ [ownN (rd_T92 l (i : Int))]) (by omega) (by simp; omega)
    have hws : Bws (rd_T92 l (i : Int)).f1 := hb.2 _ (getD_mem z92 l i hil)
    rw [List.map_cons, ← hrd]
    refine Ev.step (f := fun k => logjamlaw26_Own.j1 k l out i true) (fun k => by simp only [logjamlaw26_Own.l0]; rw [if_pos (by omega), decide_eq_true (by omega)]) ?_
    refine Ev.step (f := fun k => logjamlaw26_Own.l1 k l out i ((0 : Nat) : Int) (rd_T92 l (i : Int)).f0 []) (fun k => by simp only [logjamlaw26_Own.j1]; rw [if_pos trivial, if_pos (by omega), if_pos (by omega)]; rfl) ?_
    refine ev_own_l1 l out i _ _ hil hb.1 (by omega) hws ((rd_T92 l (i : Int)).f1.take 6).length 0 [] (Nat.zero_add _) (Nat.le_refl _) ?_
    simpa [ownN] using ih'
theorem ev_own (l : List NNode) (hb : Bns l) : Ev (fun k => logjamlaw26_Own.f k l) (ownL l) :=
  Ev.congr (f := fun k => logjamlaw26_Own.l0 k l [] ((0 : Nat) : Int)) (fun k => rfl) (by simpa [ownL] using ev_own_l0 l hb (l.take 70).length 0 [] (by omega) (Nat.le_refl _))
end Go.Proofs.YtadepdeckapgcaaDoor.Rc
end

section
namespace Go.Proofs.YtadepdeckapgcaaDoor.PRp
open Go.RowKit Go.Proofs.YtadepdeckapgcaaDoor.Orc Go.Proofs.YtadepdeckapgcaaDoorW.PrintWords Go.Proofs.YtadepdeckapgcaaDoorW.PrintLast Go.Proofs.YtadepdeckapgcaaDoorW.PrintMore
attribute [local go_sem] max2_int min2_int max_two min_two max_three min_three max_four min_four
set_option linter.unusedVariables false
set_option linter.unusedSimpArgs false
mutual
def logjamlaw36_Own.j1 : Nat → Int → List Int → List (S92) → Int → List Int → Option (Int × List Int × (List (S92)))
 | 0, _, _, _, _, _ => none
 | k + 1, x208000, x208001, x208002, x210000, x210001 => logjamlaw36_Own.l1 k x208002 0 x210000 x210001 ([] : List (S92))
def logjamlaw36_Own.l1 : Nat → List (S92) → Int → Int → List Int → List (S92) → Option (Int × List Int × (List (S92)))
 | 0, _, _, _, _, _ => none
 | k + 1, x5, x6, x210000, x210001, x210002 => if x6 < (x5.length : Int) then (if x6 < 70 then (if 0 ≤ x6 then (if x6 ≤ (wrap64 (x6 + 1)) then (if (wrap64 (x6 + 1)) ≤ (x5.length : Int) then ((logjamlaw26_Own.f k ((x5.take ((wrap64 (x6 + 1)) : Int).toNat).drop (x6 : Int).toNat)).bind fun t218 => (if 0 < (t218.length : Int) then (if x210002.length < 4398046511104 then (logjamlaw36_Own.l1 k x5 (wrap64 (x6 + 1)) x210000 x210001 (x210002 ++ [(⟨(rd_T92 t218 0).f0, (rd_T92 t218 0).f1⟩ : S92)])) else (none)) else (none))) else (none)) else (none)) else (none)) else (some (x210000, x210001, x210002))) else (some (x210000, x210001, x210002))
def logjamlaw36_Own.l0 : Nat → Int → Int → List Int → List (S92) → Int → List Int → Option (Int × List Int × (List (S92)))
 | 0, _, _, _, _, _, _ => none
 | k + 1, x4, x208000, x208001, x208002, x210000, x210001 => if x4 < (x208001.length : Int) then (if x4 < 70 then (if 0 ≤ x4 then (if x210001.length < 17592186044416 then (logjamlaw36_Own.l0 k (wrap64 (x4 + 1)) x208000 x208001 x208002 x210000 (x210001 ++ [rd x208001 x4])) else (none)) else (none)) else (logjamlaw36_Own.j1 k x208000 x208001 x208002 x210000 x210001)) else (logjamlaw36_Own.j1 k x208000 x208001 x208002 x210000 x210001)
end
def logjamlaw36_Own.f (k : Nat) (a0_0 : Int) (l0_1 : List Int) (l0_2 : List (S92)) : Option (Int × List Int × (List (S92))) := logjamlaw36_Own.l0 k 0 a0_0 l0_1 l0_2 a0_0 ([] : List Int)
def logjamlaw36_Own.T5 : Bool × List (List Nat × List Nat) := (true, [([], []), ([0], [0]), ([], []), ([2], [2]), ([], []), ([3, 4], [3, 4]), ([5], [5]), ([6], [6]), ([1, 7], [1, 7]), ([0, 1, 2, 3, 4, 5, 6, 7, 8], []), ([9, 8, 8, 0, 1, 2, 3, 4, 5, 6, 7, 8], [8, 9])])
def logjamlaw36_Own.B5 : List Nat := [0, 1, 0, 4, 0, 28, 60, 124, 255, 511, 1023]
theorem logjamlaw36_Own.tab5 : rtab .any (opsOf Tryd.f13 5) = logjamlaw36_Own.T5 := by kernel_rfl
theorem logjamlaw36_Own.bits5 : waitsOk logjamlaw36_Own.T5.2 logjamlaw36_Own.B5 = true := by kernel_rfl
def logjamlaw36_Own.T10 : Bool × List (List Nat × List Nat) := (true, [([], []), ([0], [0]), ([], []), ([], []), ([], []), ([4], [4]), ([2, 3, 5], [2, 3, 5]), ([6], [6]), ([7], [7]), ([8], [8]), ([9], [9]), ([1, 10, 7], [1, 10]), ([0, 1, 2, 3, 4, 5, 6, 7, 8, 9, 10, 11], []), ([12, 11, 11, 0, 1, 2, 3, 4, 5, 6, 7, 8, 9, 10, 11], [11, 12])])
def logjamlaw36_Own.B10 : List Nat := [0, 1, 0, 0, 0, 16, 60, 124, 252, 508, 1020, 2047, 4095, 8191]
theorem logjamlaw36_Own.tab10 : rtab .any (opsOf Tryd.f13 10) = logjamlaw36_Own.T10 := by kernel_rfl
theorem logjamlaw36_Own.bits10 : waitsOk logjamlaw36_Own.T10.2 logjamlaw36_Own.B10 = true := by kernel_rfl
set_option maxHeartbeats 8000000 in
set_option maxRecDepth 100000 in
theorem logjamlaw36_Own.calls (k : Nat) (a0_0 : Int) (A0_1 : Option Addr) (c0_1 : Nat) (l0_1 : List Int) (A0_2 : Option Addr) (c0_2 : Nat) (l0_2 : List (S92)) (r1 : Int) (r2 : List Int) (r3 : List (S92)) (w : World) (hr0_1 : Kd.C (Kd.int .i64) w A0_1 l0_1.length l0_1) (hc0_1 : l0_1.length ≤ c0_1) (hr0_2 : Kd.C k92 w A0_2 l0_2.length l0_2) (hc0_2 : l0_2.length ≤ c0_2) (h : logjamlaw36_Own.f k a0_0 l0_1 l0_2 = some (r1, r2, r3)) :
  Calls Tryd.prog 13 #[.agg #[.int .i64 a0_0, .slice A0_1 l0_1.length c0_1, .slice A0_2 l0_2.length c0_2]] w fun e w' => ∃ v1_ v2_ : Value, e = .returned (.agg #[.int .i64 r1, v1_, v2_]) ∧ Kd.R (Kd.int .i64) 3 w' w.heap.size (fun k_ => (w.heap.size ≤ k_)) v1_ r2 ∧ Kd.N k92 92 w' w.heap.size (fun k_ => (w.heap.size ≤ k_) ∧ some k_ ≠ (v1_ : Value).ownBlock) v2_ r3 ∧ Below w.heap.size w w' := by
 have hu25 := Tryd.underlying25
 have hu92 := Tryd.underlying92
 have HR0_1 := Aside0.mk hr0_1
 have HC0_1 := Aside0.mk hc0_1
 clear hr0_1 hc0_1
 have HR0_2 := Aside0.mk hr0_2
 have HC0_2 := Aside0.mk hc0_2
 clear hr0_2 hc0_2
 have HB := Aside0.mk (Below.refl w.heap.size w)
 have H : (logjamlaw36_Own.l0 k 0 a0_0 l0_1 l0_2 a0_0 ([] : List Int)) = some (r1, r2, r3) := h
 clear h
 have HC2 := Aside0.mk H
 clear H
 go_enter Tryd.func13, Tryd.ntmps13
 go_upto_block 0 with (first | ((with_reducible refine gate_dst (N := 1) rfl ?_); refine box_event ?hg (N := 1) ?hd (cs := #[.int .i64 a0_0, .slice A0_1 l0_1.length c0_1, .slice A0_2 l0_2.length c0_2]) (t := 25) ?hr ?_; (case hd => rfl); (case hg => rfl); (case hr => first | (go_simp; done) | (go_simp; rfl)); intro gb207 hg w3 hbox hb; have n0_ := Aside0.mk (below_step (by repeat (first | (with_reducible first | exact HB.out | apply below_alloc | apply pw_below_drewN | apply below_drew1) | exact HB.out)) hb); have n1_ := Aside0.mk (hbox); have n2_ := Aside0.mk ((by rw [hg]; exact (below_size (by repeat (first | (with_reducible first | exact HB.out | apply below_alloc | apply pw_below_drewN | apply below_drew1) | exact HB.out))) : w.heap.size ≤ gb207)); have n3_ := Aside0.mk ((by rw [hg]; exact (below_size (by repeat (first | (with_reducible first | exact HB.out | apply below_alloc | apply pw_below_drewN | apply below_drew1) | exact HB.out))) : w.heap.size ≤ gb207)); clear HB; have HB := n0_; have BK207 := n1_; have GW207 := n2_; have GE207 := n3_; clear n0_ n1_ n2_ n3_; clear hb hbox hg) | ((with_reducible refine gate_dst (N := 2) rfl ?_); refine box_event ?hg (N := 2) ?hd (cs := #[.int .i64 0, .slice none 0 0, .slice none 0 0]) (t := 25) ?hr ?_; (case hd => rfl); (case hg => rfl); (case hr => first | (go_simp; done) | (go_simp; rfl)); intro gb208 hg w4 hbox hb; have n0_ := Aside0.mk (blk_below (g := gb207) (o := .cells #[.int .i64 a0_0, .slice A0_1 l0_1.length c0_1, .slice A0_2 l0_2.length c0_2] 25 (0, 0)) (by (with_reducible repeat (first | refine blk_drewN ?_ _ | refine blk_drew ?_ | refine blk_alloc ?_ _)); exact BK207.out) hb); have n1_ := Aside0.mk (below_step (by repeat (first | (with_reducible first | exact HB.out | apply below_alloc | apply pw_below_drewN | apply below_drew1 | refine below_set ?_ GE207.out) | exact HB.out)) hb); have n2_ := Aside0.mk (hbox); have n3_ := Aside0.mk ((by rw [hg]; exact (below_size (by repeat (first | (with_reducible first | exact HB.out | apply below_alloc | apply pw_below_drewN | apply below_drew1 | refine below_set ?_ GE207.out) | exact HB.out))) : w.heap.size ≤ gb208)); have n4_ := Aside0.mk ((by rw [hg]; exact (below_size (by repeat (first | (with_reducible first | exact HB.out | apply below_alloc | apply pw_below_drewN | apply below_drew1 | refine below_set ?_ GE207.out) | exact HB.out))) : w.heap.size ≤ gb208)); have n5_ := Aside0.mk ((by rw [hg]; exact Nat.ne_of_lt (blk_lt (g := gb207) (o := .cells #[.int .i64 a0_0, .slice A0_1 l0_1.length c0_1, .slice A0_2 l0_2.length c0_2] 25 (0, 0)) (by (with_reducible repeat (first | refine blk_drewN ?_ _ | refine blk_drew ?_ | refine blk_alloc ?_ _)); exact BK207.out)) : gb207 ≠ gb208)); have n6_ := Aside0.mk ((by rw [hg]; exact Nat.ne_of_gt (blk_lt (g := gb207) (o := .cells #[.int .i64 a0_0, .slice A0_1 l0_1.length c0_1, .slice A0_2 l0_2.length c0_2] 25 (0, 0)) (by (with_reducible repeat (first | refine blk_drewN ?_ _ | refine blk_drew ?_ | refine blk_alloc ?_ _)); exact BK207.out)) : gb208 ≠ gb207)); clear BK207; clear HB; have BK207 := n0_; have HB := n1_; have BK208 := n2_; have GW208 := n3_; have GE208 := n4_; have NB207_208 := n5_; have NB208_207 := n6_; clear n0_ n1_ n2_ n3_ n4_ n5_ n6_; clear hb hbox hg; have hnb5 := NB207_208.out; have hnc5 := NB208_207.out; have hcz6_0 : w4.cell? ⟨gb207, 0, none⟩ = some (.int .i64 a0_0) := (blk_cell BK207.out 0).trans rfl; have hcz6_1 : w4.cell? ⟨gb207, 1, none⟩ = some (.slice A0_1 l0_1.length c0_1) := (blk_cell BK207.out 1).trans rfl; have hcz6_2 : w4.cell? ⟨gb207, 2, none⟩ = some (.slice A0_2 l0_2.length c0_2) := (blk_cell BK207.out 2).trans rfl; have hfz6_0 := blk_frozen BK207.out 0; have hfz6_1 := blk_frozen BK207.out 1; have hfz6_2 := blk_frozen BK207.out 2) | ((with_reducible refine gate_dst (N := 3) rfl ?_); refine box_event ?hg (N := 3) ?hd (cs := #[.int .i64 0, .slice none 0 0, .slice none 0 0]) (t := 25) ?hr ?_; (case hd => rfl); (case hg => rfl); (case hr => first | (go_simp; done) | (go_simp; rfl)); intro gb209 hg w7 hbox hb; have n0_ := Aside0.mk (blk_below (g := gb207) (o := .cells #[.int .i64 a0_0, .slice A0_1 l0_1.length c0_1, .slice A0_2 l0_2.length c0_2] 25 (0, 0)) (by (with_reducible repeat (first | refine blk_drewN ?_ _ | refine blk_drew ?_ | refine blk_alloc ?_ _)); exact BK207.out) hb); have n1_ := Aside0.mk (blk_below (g := gb208) (o := .cells #[.int .i64 0, .slice none 0 0, .slice none 0 0] 25 (0, 0)) (by (with_reducible repeat (first | refine blk_drewN ?_ _ | refine blk_drew ?_ | refine blk_alloc ?_ _)); exact BK208.out) hb); have n2_ := Aside0.mk (below_step (by repeat (first | (with_reducible first | exact HB.out | apply below_alloc | apply pw_below_drewN | apply below_drew1 | refine below_set ?_ GE207.out | refine below_set ?_ GE208.out) | exact HB.out)) hb); have n3_ := Aside0.mk (hbox); have n4_ := Aside0.mk ((by rw [hg]; exact (below_size (by repeat (first | (with_reducible first | exact HB.out | apply below_alloc | apply pw_below_drewN | apply below_drew1 | refine below_set ?_ GE207.out | refine below_set ?_ GE208.out) | exact HB.out))) : w.heap.size ≤ gb209)); have n5_ := Aside0.mk ((by rw [hg]; exact (below_size (by repeat (first | (with_reducible first | exact HB.out | apply below_alloc | apply pw_below_drewN | apply below_drew1 | refine below_set ?_ GE207.out | refine below_set ?_ GE208.out) | exact HB.out))) : w.heap.size ≤ gb209)); have n6_ := Aside0.mk ((by rw [hg]; exact Nat.ne_of_lt (blk_lt (g := gb207) (o := .cells #[.int .i64 a0_0, .slice A0_1 l0_1.length c0_1, .slice A0_2 l0_2.length c0_2] 25 (0, 0)) (by (with_reducible repeat (first | refine blk_drewN ?_ _ | refine blk_drew ?_ | refine blk_alloc ?_ _)); exact BK207.out)) : gb207 ≠ gb209)); have n7_ := Aside0.mk ((by rw [hg]; exact Nat.ne_of_gt (blk_lt (g := gb207) (o := .cells #[.int .i64 a0_0, .slice A0_1 l0_1.length c0_1, .slice A0_2 l0_2.length c0_2] 25 (0, 0)) (by (with_reducible repeat (first | refine blk_drewN ?_ _ | refine blk_drew ?_ | refine blk_alloc ?_ _)); exact BK207.out)) : gb209 ≠ gb207)); have n8_ := Aside0.mk ((by rw [hg]; exact Nat.ne_of_lt (blk_lt (g := gb208) (o := .cells #[.int .i64 0, .slice none 0 0, .slice none 0 0] 25 (0, 0)) (by (with_reducible repeat (first | refine blk_drewN ?_ _ | refine blk_drew ?_ | refine blk_alloc ?_ _)); exact BK208.out)) : gb208 ≠ gb209)); have n9_ := Aside0.mk ((by rw [hg]; exact Nat.ne_of_gt (blk_lt (g := gb208) (o := .cells #[.int .i64 0, .slice none 0 0, .slice none 0 0] 25 (0, 0)) (by (with_reducible repeat (first | refine blk_drewN ?_ _ | refine blk_drew ?_ | refine blk_alloc ?_ _)); exact BK208.out)) : gb209 ≠ gb208)); clear BK207; clear BK208; clear HB; have BK207 := n0_; have BK208 := n1_; have HB := n2_; have BK209 := n3_; have GW209 := n4_; have GE209 := n5_; have NB207_209 := n6_; have NB209_207 := n7_; have NB208_209 := n8_; have NB209_208 := n9_; clear n0_ n1_ n2_ n3_ n4_ n5_ n6_ n7_ n8_ n9_; clear hb hbox hg; have hnb8 := NB209_207.out; have hnc8 := NB207_209.out; have hnb9 := NB209_208.out; have hnc9 := NB208_209.out; have hcz10_0 : w7.cell? ⟨gb209, 0, none⟩ = some (.int .i64 0) := (blk_cell BK209.out 0).trans rfl; have hcz10_1 : w7.cell? ⟨gb209, 1, none⟩ = some (.slice none 0 0) := (blk_cell BK209.out 1).trans rfl; have hcz10_2 : w7.cell? ⟨gb209, 2, none⟩ = some (.slice none 0 0) := (blk_cell BK209.out 2).trans rfl; have hfz10_0 := blk_frozen BK209.out 0; have hfz10_1 := blk_frozen BK209.out 1; have hfz10_2 := blk_frozen BK209.out 2))
 (try simp only [Act.put, List.setIfInBounds_toArray, List.set_cons_zero, List.set_cons_succ])
 go_cut [] (fun wc => ∃ (kq : Nat) (x210001_1 : List Int) (u210001 : Value), Aside0 (logjamlaw36_Own.j1 kq a0_0 l0_1 l0_2 a0_0 x210001_1 = some (r1, r2, r3)) ∧ Aside0 (kq ≤ k) ∧ Aside0 (Kd.R (Kd.int .i64) 3 wc w.heap.size (fun k_ => (w.heap.size ≤ k_)) u210001 x210001_1) ∧ Aside0 (wc.heap[gb207]? = some (.cells #[.int .i64 a0_0, (.slice A0_1 l0_1.length c0_1), (.slice A0_2 l0_2.length c0_2)] 25 (0, 0))) ∧ Aside0 (wc.heap[gb208]? = some (.cells #[.int .i64 0, (.slice none 0 0), (.slice none 0 0)] 25 (0, 0))) ∧ Aside0 (wc.heap[gb209]? = some (.cells #[.int .i64 a0_0, u210001, (.slice none 0 0)] 25 (0, 0))) ∧ Aside0 (Below w.heap.size w wc))
 case first =>
  have H := HC2.out
  clear HC2
  have H' := Aside0.mk H
  clear H
  go_wp2
  go_loopg [4] k (fun kq v4 w' => ∃ (x4_1 : Int) (x210001_1 : List Int) (u210001 : Value), v4 = .int .i64 x4_1 ∧ Aside0 (logjamlaw36_Own.l0 kq x4_1 a0_0 l0_1 l0_2 a0_0 x210001_1 = some (r1, r2, r3)) ∧ Aside0 (kq ≤ k) ∧ Aside0 (Kd.R (Kd.int .i64) 3 w' w.heap.size (fun k_ => (w.heap.size ≤ k_)) u210001 x210001_1) ∧ Aside0 (w'.heap[gb207]? = some (.cells #[.int .i64 a0_0, (.slice A0_1 l0_1.length c0_1), (.slice A0_2 l0_2.length c0_2)] 25 (0, 0))) ∧ Aside0 (w'.heap[gb208]? = some (.cells #[.int .i64 0, (.slice none 0 0), (.slice none 0 0)] 25 (0, 0))) ∧ Aside0 (w'.heap[gb209]? = some (.cells #[.int .i64 a0_0, u210001, (.slice none 0 0)] 25 (0, 0))) ∧ Aside0 (Below w.heap.size w w'))
  case atStart => exact ⟨(0), (([] : List Int)), (.slice none 0 0), (by first | rfl | (simp; done) | (simp only [emptyNe_, emptyEq_]; done) | (simp [*]; done)), H', ⟨Nat.le_refl _⟩, ⟨by first | exact Kd.R_nil _ _ _ _ _ | exact Kd.N_nil _ _ _ _ _ | exact Kd.V_nil _ _ _ _ _ | exact Kd.Q_nil _ _ _ _ _ | exact Kd.S_nil _ _ _ _ _⟩, ⟨by (with_reducible repeat (first | refine blk_drewN ?_ _ | refine blk_drew ?_ | refine blk_alloc ?_ _)); refine blk_far ?_ NB207_209.out _; (with_reducible repeat (first | refine blk_drewN ?_ _ | refine blk_drew ?_ | refine blk_alloc ?_ _)); refine blk_far ?_ NB207_209.out _; (with_reducible repeat (first | refine blk_drewN ?_ _ | refine blk_drew ?_ | refine blk_alloc ?_ _)); refine blk_far ?_ NB207_209.out _; (with_reducible repeat (first | refine blk_drewN ?_ _ | refine blk_drew ?_ | refine blk_alloc ?_ _)); exact BK207.out⟩, ⟨by (with_reducible repeat (first | refine blk_drewN ?_ _ | refine blk_drew ?_ | refine blk_alloc ?_ _)); refine blk_far ?_ NB208_209.out _; (with_reducible repeat (first | refine blk_drewN ?_ _ | refine blk_drew ?_ | refine blk_alloc ?_ _)); refine blk_far ?_ NB208_209.out _; (with_reducible repeat (first | refine blk_drewN ?_ _ | refine blk_drew ?_ | refine blk_alloc ?_ _)); refine blk_far ?_ NB208_209.out _; (with_reducible repeat (first | refine blk_drewN ?_ _ | refine blk_drew ?_ | refine blk_alloc ?_ _)); exact BK208.out⟩, ⟨by (with_reducible repeat (first | refine blk_drewN ?_ _ | refine blk_drew ?_ | refine blk_alloc ?_ _)); refine blk_put (cs := #[.int .i64 a0_0, .slice none 0 0, .slice none 0 0]) ?_ 2 _ rfl; (with_reducible repeat (first | refine blk_drewN ?_ _ | refine blk_drew ?_ | refine blk_alloc ?_ _)); refine blk_put (cs := #[.int .i64 a0_0, .slice none 0 0, .slice none 0 0]) ?_ 1 _ rfl; (with_reducible repeat (first | refine blk_drewN ?_ _ | refine blk_drew ?_ | refine blk_alloc ?_ _)); refine blk_put (cs := #[.int .i64 0, .slice none 0 0, .slice none 0 0]) ?_ 0 _ rfl; (with_reducible repeat (first | refine blk_drewN ?_ _ | refine blk_drew ?_ | refine blk_alloc ?_ _)); exact BK209.out⟩, ⟨by repeat (first | (with_reducible first | exact HB.out | apply below_alloc | apply pw_below_drewN | apply below_drew1 | refine below_set ?_ GE207.out | refine below_set ?_ GE208.out | refine below_set ?_ GE209.out) | exact HB.out)⟩⟩
  case round =>
   clear H'; try clear c1; try clear p2; try clear c5; try clear c8; try clear c9; try clear hcz10_0; try clear hcz10_1; try clear hcz10_2; try clear hcz6_0; try clear hcz6_1; try clear hcz6_2; try clear hfz10_0; try clear hfz10_1; try clear hfz10_2; try clear hfz6_0; try clear hfz6_1; try clear hfz6_2
   obtain ⟨x4_1, x210001_1, u210001, rfl, HA, HK1, HO_210001, BK207, BK208, BK209, HB⟩ := hrel
   cases gk with
   | zero => exact absurd HA.out (by simp [logjamlaw36_Own.l0])
   | succ k1 =>
    have H := HA.out
    clear HA
    simp only [logjamlaw36_Own.l0] at H
    by_cases c11 : x4_1 < (l0_1.length : Int)
    ·rw [if_pos c11] at H
     have c11b0 : decide (x4_1 < (l0_1.length : Int)) = true := decide_eq_true c11
     clear c11
     (first | rw [c11b0] | (simp only [i64_w, i32_w]; rw [c11b0]) | skip)
     by_cases c12 : x4_1 < 70
     ·rw [if_pos c12] at H
      have c12b0 : decide (x4_1 < 70) = true := decide_eq_true c12
      clear c12
      by_cases c13 : 0 ≤ x4_1
      ·rw [if_pos c13] at H
       have c13b0 : decide (0 ≤ x4_1) = true := decide_eq_true c13
       clear c13
       by_cases c14 : x210001_1.length < 17592186044416
       ·rw [if_pos c14] at H
        have LMc14 := Aside0.mk c14
        clear c14
        obtain ⟨y211, hy211⟩ : ∃ y_ : List Int, y_ = (x210001_1 ++ [rd l0_1 x4_1]) := ⟨_, rfl⟩
        replace H : (logjamlaw36_Own.l0 k1 (wrap64 (x4_1 + 1)) a0_0 l0_1 l0_2 a0_0 y211) = some (r1, r2, r3) := by first | (rw [hy211]; with_reducible exact H) | (have H2_ := (Option.bind_some _ _).symm.trans H; rw [hy211]; with_reducible exact H2_) | (have H2_ := (Option.bind_some _ _).symm.trans H; with_reducible exact H2_) | with_reducible exact H | (rw [hy211]; exact H) | exact H
        have Ny211 := Aside0.mk hy211
        clear hy211
        have H' := Aside0.mk H
        clear H
        have hnb15 := NB207_208.out
        have hnc15 := NB208_207.out
        have hnb16 := NB207_209.out
        have hnc16 := NB209_207.out
        have hcz17_0 : wr.cell? ⟨gb207, 0, none⟩ = some (.int .i64 a0_0) := (blk_cell BK207.out 0).trans rfl
        have hcz17_1 : wr.cell? ⟨gb207, 1, none⟩ = some (.slice A0_1 l0_1.length c0_1) := (blk_cell BK207.out 1).trans rfl
        have hcz17_2 : wr.cell? ⟨gb207, 2, none⟩ = some (.slice A0_2 l0_2.length c0_2) := (blk_cell BK207.out 2).trans rfl
        have hfz17_0 := blk_frozen BK207.out 0
        have hfz17_1 := blk_frozen BK207.out 1
        have hfz17_2 := blk_frozen BK207.out 2
        try go_wp2
        have n0_ := Aside0.mk (Kd.R_drew HO_210001.out)
        have n1_ := Aside0.mk (blk_drew BK207.out)
        have n2_ := Aside0.mk (blk_drew BK208.out)
        have n3_ := Aside0.mk (blk_drew BK209.out)
        have n4_ := Aside0.mk (below_drew1 HB.out)
        clear HO_210001; clear BK207; clear BK208; clear BK209; clear HB; have HO_210001 := n0_; have BK207 := n1_; have BK208 := n2_; have BK209 := n3_; have HB := n4_; clear n0_ n1_ n2_ n3_ n4_
        have p210 : 0 ≤ (x4_1 : Int) := of_decide_eq_true (by first | (with_reducible assumption) | assumption)
        have q210 : x4_1 < (l0_1.length : Int) := of_decide_eq_true (by first | (with_reducible assumption) | assumption)
        obtain ⟨ad210, e210, hx210_0⟩ := Kd.at_int HR0_1.out x4_1 p210 q210
        have hw210_0 := hx210_0
        cases e210
        replace hx210_0 := (HB.out.cell (World.block_lt_of_cell? w _ hx210_0)).trans hx210_0
        replace p210 := eq_true p210
        replace q210 := eq_true q210
        refine start_ (n := 11) (S := fun w' => w'.cell? ⟨gb209, 0, none⟩ = some (.int .i64 a0_0) ∧ w'.cell? ⟨gb209, 1, none⟩ = some (u210001) ∧ w'.cell? ⟨gb209, 2, none⟩ = some (.slice none 0 0) ∧ w'.cell? ⟨gb207, 0, none⟩ = some (.int .i64 a0_0) ∧ w'.cell? ⟨gb207, 1, none⟩ = some (.slice (some ad210) l0_1.length c0_1) ∧ w'.cell? ⟨gb207, 2, none⟩ = some (.slice A0_2 l0_2.length c0_2) ∧ w'.cell? (ad210.add (x4_1).toNat) = some (.int .i64 (rd l0_1 x4_1))) (ds := [10]) #[false, false, false, false, false, false, false, false, false, false, false] (by kernel_rfl) rfl rfl ⟨(blk_cell BK209.out 0).trans rfl, (blk_cell BK209.out 1).trans rfl, (blk_cell BK209.out 2).trans rfl, (blk_cell BK207.out 0).trans rfl, (blk_cell BK207.out 1).trans rfl, (blk_cell BK207.out 2).trans rfl, ((HB.out.cell (World.block_lt_of_cell? w _ hw210_0)).trans hw210_0)⟩ (fun hHeld => ?_); refine with_tabW logjamlaw36_Own.tab5 logjamlaw36_Own.bits5 (fun HT_ HW_ => ?_)
        generalize wr.drew = w18 at HO_210001 BK207 BK208 BK209 HB hx210_0 hHeld ⊢
        refine pure_ (i := 0) (N := some 21) (v := ?_) (a' := ?_) #[true, false, false, false, false, false, false, false, false, false, false] rfl rfl (any_of HT_.out (by kernel_rfl)) (fun _ _ _ h => h) (Or.inl ⟨by rfl, ?_⟩) ?_ ?_
        rotate_left
        ·intro w'
         go_simp
         with_reducible rfl
        rotate_left
        ·simp only [Act.put, List.setIfInBounds_toArray, List.set_cons_zero, List.set_cons_succ, i64_w, i32_w]
         rfl
        refine pure_ (i := 2) (N := some 23) (v := ?_) (a' := ?_) #[true, false, true, false, false, false, false, false, false, false, false] rfl rfl (any_of HT_.out (by kernel_rfl)) (fun _ _ _ h => h) (Or.inl ⟨by rfl, ?_⟩) ?_ ?_
        rotate_left
        ·intro w'
         go_simp
         with_reducible rfl
        rotate_left
        ·simp only [Act.put, List.setIfInBounds_toArray, List.set_cons_zero, List.set_cons_succ, i64_w, i32_w]
         rfl
        refine pure_ (i := 4) (N := some 25) (v := ?_) (a' := ?_) #[true, false, true, false, true, false, false, false, false, false, false] rfl rfl (any_of HT_.out (by kernel_rfl)) (fun _ _ _ h => h) (Or.inl ⟨by rfl, ?_⟩) ?_ ?_
        rotate_left
        ·intro w'
         go_simp
         with_reducible rfl
        rotate_left
        ·simp only [Act.put, List.setIfInBounds_toArray, List.set_cons_zero, List.set_cons_succ, i64_w, i32_w]
         rfl
        refine take_ (i := 1) (N := some 22) (v := ?_) (a' := ?_) #[true, true, true, false, true, false, false, false, false, false, false] rfl rfl (take_ofW HT_.out HW_.out (by kernel_rfl)) (fun _ _ _ h => h) (Or.inl ⟨by rfl, ?_⟩) hHeld ?_ ?_
        rotate_left
        ·rintro w' ⟨s0, s1, s2, s3, s4, s5, s6⟩
         go_simp
         with_reducible rfl
        rotate_left
        ·simp only [Act.put, List.setIfInBounds_toArray, List.set_cons_zero, List.set_cons_succ, i64_w, i32_w]
         rfl
        refine take_ (i := 3) (N := some 24) (v := ?_) (a' := ?_) #[true, true, true, true, true, false, false, false, false, false, false] rfl rfl (take_ofW HT_.out HW_.out (by kernel_rfl)) (fun _ _ _ h => h) (Or.inl ⟨by rfl, ?_⟩) hHeld ?_ ?_
        rotate_left
        ·rintro w' ⟨s0, s1, s2, s3, s4, s5, s6⟩
         go_simp
         with_reducible rfl
        rotate_left
        ·simp only [Act.put, List.setIfInBounds_toArray, List.set_cons_zero, List.set_cons_succ, i64_w, i32_w]
         rfl
        refine pure_ (i := 5) (N := some 26) (v := ?_) (a' := ?_) #[true, true, true, true, true, true, false, false, false, false, false] rfl rfl (any_of HT_.out (by kernel_rfl)) (fun _ _ _ h => h) (Or.inl ⟨by rfl, ?_⟩) ?_ ?_
        rotate_left
        ·intro w'
         go_simp
         with_reducible rfl
        rotate_left
        ·simp only [Act.put, List.setIfInBounds_toArray, List.set_cons_zero, List.set_cons_succ, i64_w, i32_w]
         rfl
        refine take_ (i := 6) (N := some 27) (v := ?_) (a' := ?_) #[true, true, true, true, true, true, true, false, false, false, false] rfl rfl (take_ofW HT_.out HW_.out (by kernel_rfl)) (fun _ _ _ h => h) (Or.inl ⟨by rfl, ?_⟩) hHeld ?_ ?_
        rotate_left
        ·rintro w' ⟨s0, s1, s2, s3, s4, s5, s6⟩
         go_simp
         with_reducible rfl
        rotate_left
        ·simp only [Act.put, List.setIfInBounds_toArray, List.set_cons_zero, List.set_cons_succ, i64_w, i32_w]
         rfl
        refine one_ (i := 7) (N := some 28) #[true, true, true, true, true, true, true, true, false, false, false] rfl rfl (one_of HT_.out (by kernel_rfl)) (by decide) (fun K hK => ?_)
        refine value_ (w1 := ?_) (v := ?_) (by rfl) rfl ?_ ?_
        rotate_left 2
        ·go_simp
         constructor
         ·rfl
         ·rfl
        refine hK.out _ _ ⟨(blk_cell (blk_alloc BK209.out _) 0).trans rfl, (blk_cell (blk_alloc BK209.out _) 1).trans rfl, (blk_cell (blk_alloc BK209.out _) 2).trans rfl, (blk_cell (blk_alloc BK207.out _) 0).trans rfl, (blk_cell (blk_alloc BK207.out _) 1).trans rfl, (blk_cell (blk_alloc BK207.out _) 2).trans rfl, (World.cell?_alloc_lt _ _ _ (World.block_lt_of_cell? _ _ (((HB.out.cell (World.block_lt_of_cell? w _ hw210_0)).trans hw210_0)))).trans (((HB.out.cell (World.block_lt_of_cell? w _ hw210_0)).trans hw210_0))⟩ (fun hHeld => ?_)
        clear hK K
        refine norm_ (a' := ?_) ?_ ?_
        rotate_left
        ·show Act.put _ (some 28) _ = _
         simp only [Act.put, List.setIfInBounds_toArray, List.set_cons_zero, List.set_cons_succ, i64_w, i32_w]
         rfl
        refine one_ (i := 8) (N := some 29) #[true, true, true, true, true, true, true, true, true, false, false] rfl rfl (one_of HT_.out (by kernel_rfl)) (by decide) (fun K hK => ?_)
        refine Kd.R_append_step (Kd.int .i64) (w0 := w) w.heap.size (by rfl) (.tmp 22) (.tmp 28) 22 3 (.int .i64 0) 8 rfl Tryd.underlying22 info3 rfl (by decide) (by omega) u210001 x210001_1 (rd l0_1 x4_1) [.int .i64 (rd l0_1 x4_1)] (fun k_ => (w.heap.size ≤ k_)) (fun _ => False) rfl rfl ?aP (fun _ hk => hk.elim) ?aF ?aO ?aB ?aS ?aL ?_
        (case aP => exact rfl)
        (case aB => exact (by repeat (first | (with_reducible first | exact HB.out | apply below_alloc | apply pw_below_drewN | apply below_drew1 | refine below_set ?_ GE207.out | refine below_set ?_ GE208.out | refine below_set ?_ GE209.out) | exact HB.out)))
        (case aF => exact (fun k_ hk => (Nat.le_trans (below_size (by repeat (first | (with_reducible first | exact HB.out | apply below_alloc | apply pw_below_drewN | apply below_drew1 | refine below_set ?_ GE207.out | refine below_set ?_ GE208.out | refine below_set ?_ GE209.out) | exact HB.out))) hk)))
        (case aO => exact (by (with_reducible repeat (first | apply Kd.R_alloc | apply Kd.R_drewN | apply Kd.R_drew)); exact HO_210001.out))
        (case aS => exact (below_size (by repeat (first | (with_reducible first | exact HB.out | apply below_alloc | apply pw_below_drewN | apply below_drew1 | refine below_set ?_ GE207.out | refine below_set ?_ GE208.out | refine below_set ?_ GE209.out) | exact HB.out))))
        (case aL => have := LMc14.out; omega)
        intro v212 w19 ho hb hg hat
        rw [← Ny211.out] at ho
        have n0_ := Aside0.mk (blk_grown (g := gb207) (o := .cells #[.int .i64 a0_0, .slice (some ad210) l0_1.length c0_1, .slice A0_2 l0_2.length c0_2] 25 (0, 0)) (by (with_reducible repeat (first | refine blk_drewN ?_ _ | refine blk_drew ?_ | refine blk_alloc ?_ _)); exact BK207.out) hg (Kd.R_ne HO_210001.out BK207.out (by decide)))
        have n1_ := Aside0.mk (blk_grown (g := gb208) (o := .cells #[.int .i64 0, .slice none 0 0, .slice none 0 0] 25 (0, 0)) (by (with_reducible repeat (first | refine blk_drewN ?_ _ | refine blk_drew ?_ | refine blk_alloc ?_ _)); exact BK208.out) hg (Kd.R_ne HO_210001.out BK208.out (by decide)))
        have n2_ := Aside0.mk (blk_grown (g := gb209) (o := .cells #[.int .i64 a0_0, u210001, .slice none 0 0] 25 (0, 0)) (by (with_reducible repeat (first | refine blk_drewN ?_ _ | refine blk_drew ?_ | refine blk_alloc ?_ _)); exact BK209.out) hg (Kd.R_ne HO_210001.out BK209.out (by decide)))
        have n3_ := Aside0.mk (hb)
        have n4_ := Aside0.mk (ho)
        clear BK207; clear BK208; clear BK209; clear HB; clear HO_210001; have BK207 := n0_; have BK208 := n1_; have BK209 := n2_; have HB := n3_; have HO213 := n4_; clear n0_ n1_ n2_ n3_ n4_; clear ho hb hg hat
        obtain ⟨Ao20, co20, eo20⟩ := Kd.R_slice HO213.out
        (first | subst eo20 | (injection eo20 with f1_ f2_ f3_; have f4_ := f1_.symm; have f5_ := f3_.symm; clear f1_ f2_ f3_; subst f4_; subst f5_))
        refine hK.out _ _ ⟨(blk_cell BK209.out 0).trans rfl, (blk_cell BK209.out 1).trans rfl, (blk_cell BK209.out 2).trans rfl, (blk_cell BK207.out 0).trans rfl, (blk_cell BK207.out 1).trans rfl, (blk_cell BK207.out 2).trans rfl, ((HB.out.cell (World.block_lt_of_cell? w _ hw210_0)).trans hw210_0)⟩ (fun hHeld => ?_)
        clear hK K
        refine norm_ (a' := ?_) ?_ ?_
        rotate_left
        ·show Act.put _ (some 29) _ = _
         simp only [Act.put, List.setIfInBounds_toArray, List.set_cons_zero, List.set_cons_succ, i64_w, i32_w]
         rfl
        refine pure_ (i := 9) (N := some 30) (v := ?_) (a' := ?_) #[true, true, true, true, true, true, true, true, true, true, false] rfl rfl (any_of HT_.out (by kernel_rfl)) (fun _ _ _ h => h) (Or.inl ⟨by rfl, ?_⟩) ?_ ?_
        rotate_left
        ·intro w'
         go_simp
         with_reducible rfl
        rotate_left
        ·simp only [Act.put, List.setIfInBounds_toArray, List.set_cons_zero, List.set_cons_succ, i64_w, i32_w]
         rfl
        refine last_ (i := 10) (N := none) #[true, true, true, true, true, true, true, true, true, true, true] rfl rfl (one_of HT_.out (by kernel_rfl)) (by decide) (fun K hK => ?_)
        have hs21 : w19.cell? ⟨gb209, 1, none⟩ = some (u210001) := (blk_cell BK209.out 1).trans rfl
        have hfs21 := blk_frozen BK209.out 1
        have hns21_0 := NB207_209.out
        have hns21_1 := NB208_209.out
        have hms21_0 := NB209_207.out
        have hms21_1 := NB209_208.out
        refine skip_ (w1 := ?_) (by rfl) rfl ?_ ?_
        rotate_left
        ·go_simp
         rfl
        refine hK.out _ _ ?_
        clear hK K
        refine done_ (done_of HT_.out (by kernel_rfl)) ?_
        try go_wp2
        go_roundg k1
        case measure => have := HK1.out; omega
        case rel => exact ⟨(wrap64 (x4_1 + 1)), (y211), (.slice Ao20 y211.length co20), (by first | rfl | (simp; done) | (simp only [emptyNe_, emptyEq_]; done) | (simp [*]; done)), H', ⟨by have := HK1.out; omega⟩, ⟨by (with_reducible repeat (first | apply Kd.R_alloc | apply Kd.R_drewN | apply Kd.R_drew)); exact Kd.R_mono (Kd.R_far (p := ⟨gb209, 1, none⟩) (Kd.R_types HO213.out BK209.out (by decide)) (fun _ hk => hk.2) (.slice Ao20 y211.length co20)) (fun _ hk => hk.1)⟩, ⟨by (with_reducible repeat (first | refine blk_drewN ?_ _ | refine blk_drew ?_ | refine blk_alloc ?_ _)); refine blk_far ?_ NB207_209.out _; (with_reducible repeat (first | refine blk_drewN ?_ _ | refine blk_drew ?_ | refine blk_alloc ?_ _)); exact BK207.out⟩, ⟨by (with_reducible repeat (first | refine blk_drewN ?_ _ | refine blk_drew ?_ | refine blk_alloc ?_ _)); refine blk_far ?_ NB208_209.out _; (with_reducible repeat (first | refine blk_drewN ?_ _ | refine blk_drew ?_ | refine blk_alloc ?_ _)); exact BK208.out⟩, ⟨by (with_reducible repeat (first | refine blk_drewN ?_ _ | refine blk_drew ?_ | refine blk_alloc ?_ _)); refine blk_put (cs := #[.int .i64 a0_0, u210001, .slice none 0 0]) ?_ 1 _ rfl; (with_reducible repeat (first | refine blk_drewN ?_ _ | refine blk_drew ?_ | refine blk_alloc ?_ _)); exact BK209.out⟩, ⟨by repeat (first | (with_reducible first | exact HB.out | apply below_alloc | apply pw_below_drewN | apply below_drew1 | refine below_set ?_ GE207.out | refine below_set ?_ GE208.out | refine below_set ?_ GE209.out) | exact HB.out)⟩⟩
       ·rw [if_neg c14] at H
        exact absurd H (by simp)
      ·rw [if_neg c13] at H
       exact absurd H (by simp)
     ·rw [if_neg c12] at H
      have c12b0 : decide (x4_1 < 70) = false := decide_eq_false c12
      clear c12
      have H' := Aside0.mk H
      clear H
      have hnb22 := NB207_208.out
      have hnc22 := NB208_207.out
      have hnb23 := NB207_209.out
      have hnc23 := NB209_207.out
      have hcz24_0 : wr.cell? ⟨gb207, 0, none⟩ = some (.int .i64 a0_0) := (blk_cell BK207.out 0).trans rfl
      have hcz24_1 : wr.cell? ⟨gb207, 1, none⟩ = some (.slice A0_1 l0_1.length c0_1) := (blk_cell BK207.out 1).trans rfl
      have hcz24_2 : wr.cell? ⟨gb207, 2, none⟩ = some (.slice A0_2 l0_2.length c0_2) := (blk_cell BK207.out 2).trans rfl
      have hfz24_0 := blk_frozen BK207.out 0
      have hfz24_1 := blk_frozen BK207.out 1
      have hfz24_2 := blk_frozen BK207.out 2
      go_wp2
      go_meet
      case rel => exact ⟨_, (x210001_1), (u210001), H', ⟨by have := HK1.out; first | omega | exact Nat.le_refl _⟩, ⟨by (with_reducible repeat (first | apply Kd.R_alloc | apply Kd.R_drewN | apply Kd.R_drew)); exact HO_210001.out⟩, ⟨by (with_reducible repeat (first | refine blk_drewN ?_ _ | refine blk_drew ?_ | refine blk_alloc ?_ _)); exact BK207.out⟩, ⟨by (with_reducible repeat (first | refine blk_drewN ?_ _ | refine blk_drew ?_ | refine blk_alloc ?_ _)); exact BK208.out⟩, ⟨by (with_reducible repeat (first | refine blk_drewN ?_ _ | refine blk_drew ?_ | refine blk_alloc ?_ _)); exact BK209.out⟩, ⟨by repeat (first | (with_reducible first | exact HB.out | apply below_alloc | apply pw_below_drewN | apply below_drew1 | refine below_set ?_ GE207.out | refine below_set ?_ GE208.out | refine below_set ?_ GE209.out) | exact HB.out)⟩⟩
    ·rw [if_neg c11] at H
     have c11b0 : decide (x4_1 < (l0_1.length : Int)) = false := decide_eq_false c11
     clear c11
     (first | rw [c11b0] | (simp only [i64_w, i32_w]; rw [c11b0]) | skip)
     have H' := Aside0.mk H
     clear H
     have hnb25 := NB207_208.out
     have hnc25 := NB208_207.out
     have hnb26 := NB207_209.out
     have hnc26 := NB209_207.out
     have hcz27_0 : wr.cell? ⟨gb207, 0, none⟩ = some (.int .i64 a0_0) := (blk_cell BK207.out 0).trans rfl
     have hcz27_1 : wr.cell? ⟨gb207, 1, none⟩ = some (.slice A0_1 l0_1.length c0_1) := (blk_cell BK207.out 1).trans rfl
     have hcz27_2 : wr.cell? ⟨gb207, 2, none⟩ = some (.slice A0_2 l0_2.length c0_2) := (blk_cell BK207.out 2).trans rfl
     have hfz27_0 := blk_frozen BK207.out 0
     have hfz27_1 := blk_frozen BK207.out 1
     have hfz27_2 := blk_frozen BK207.out 2
     go_wp2
     go_meet
     case rel => exact ⟨_, (x210001_1), (u210001), H', ⟨by have := HK1.out; first | omega | exact Nat.le_refl _⟩, ⟨by (with_reducible repeat (first | apply Kd.R_alloc | apply Kd.R_drewN | apply Kd.R_drew)); exact HO_210001.out⟩, ⟨by (with_reducible repeat (first | refine blk_drewN ?_ _ | refine blk_drew ?_ | refine blk_alloc ?_ _)); exact BK207.out⟩, ⟨by (with_reducible repeat (first | refine blk_drewN ?_ _ | refine blk_drew ?_ | refine blk_alloc ?_ _)); exact BK208.out⟩, ⟨by (with_reducible repeat (first | refine blk_drewN ?_ _ | refine blk_drew ?_ | refine blk_alloc ?_ _)); exact BK209.out⟩, ⟨by repeat (first | (with_reducible first | exact HB.out | apply below_alloc | apply pw_below_drewN | apply below_drew1 | refine below_set ?_ GE207.out | refine below_set ?_ GE208.out | refine below_set ?_ GE209.out) | exact HB.out)⟩⟩
 case rest =>
  clear HC2; try clear c1; try clear c2; try clear p2; try clear q2; try clear hx2; try clear c5; try clear p6; try clear c8; try clear c9; try clear c11; try clear c11b0; try clear c12; try clear c12b0; try clear c13; try clear c13b0; try clear c14; try clear c15; try clear c16; try clear p21; try clear q21; try clear hx21; try clear c22; try clear c23; try clear c25; try clear c26; try clear hcz10_0; try clear hcz10_1; try clear hcz10_2; try clear hcz17_0; try clear hcz17_1; try clear hcz17_2; try clear hcz24_0; try clear hcz24_1; try clear hcz24_2; try clear hcz27_0; try clear hcz27_1; try clear hcz27_2; try clear hcz6_0; try clear hcz6_1; try clear hcz6_2; try clear hfz10_0; try clear hfz10_1; try clear hfz10_2; try clear hfz17_0; try clear hfz17_1; try clear hfz17_2; try clear hfz24_0; try clear hfz24_1; try clear hfz24_2; try clear hfz27_0; try clear hfz27_1; try clear hfz27_2; try clear hfz6_0; try clear hfz6_1; try clear hfz6_2; try clear hx210_0; try clear p2; try clear p210; try clear q210
  obtain ⟨kq, x210001_1, u210001, HA, HJ1, HO_210001, BK207, BK208, BK209, HB⟩ := hcut
  cases kq with
  | zero => exact absurd HA.out (by simp [logjamlaw36_Own.j1])
  | succ kj1 =>
   have H := HA.out
   clear HA
   simp only [logjamlaw36_Own.j1] at H
   have H' := Aside0.mk H
   clear H
   have hnb28 := NB207_208.out
   have hnc28 := NB208_207.out
   have hnb29 := NB207_209.out
   have hnc29 := NB209_207.out
   have hcz30_0 : wc.cell? ⟨gb207, 0, none⟩ = some (.int .i64 a0_0) := (blk_cell BK207.out 0).trans rfl
   have hcz30_1 : wc.cell? ⟨gb207, 1, none⟩ = some (.slice A0_1 l0_1.length c0_1) := (blk_cell BK207.out 1).trans rfl
   have hcz30_2 : wc.cell? ⟨gb207, 2, none⟩ = some (.slice A0_2 l0_2.length c0_2) := (blk_cell BK207.out 2).trans rfl
   have hfz30_0 := blk_frozen BK207.out 0
   have hfz30_1 := blk_frozen BK207.out 1
   have hfz30_2 := blk_frozen BK207.out 2
   go_wp2
   go_loopg [6] kj1 (fun kq v6 w' => ∃ (x6_2 : Int) (x210002_2 : List (S92)) (u210002 : Value), v6 = .int .i64 x6_2 ∧ Aside0 (logjamlaw36_Own.l1 kq l0_2 x6_2 a0_0 x210001_1 x210002_2 = some (r1, r2, r3)) ∧ Aside0 (kq ≤ kj1) ∧ Aside0 (Kd.R (Kd.int .i64) 3 w' w.heap.size (fun k_ => (w.heap.size ≤ k_)) u210001 x210001_1) ∧ Aside0 (Kd.N k92 92 w' w.heap.size (fun k_ => (w.heap.size ≤ k_) ∧ some k_ ≠ (u210001 : Value).ownBlock ∧ k_ ≠ gb207 ∧ k_ ≠ gb208 ∧ k_ ≠ gb209) u210002 x210002_2) ∧ Aside0 (w'.heap[gb207]? = some (.cells #[.int .i64 a0_0, (.slice A0_1 l0_1.length c0_1), (.slice A0_2 l0_2.length c0_2)] 25 (0, 0))) ∧ Aside0 (w'.heap[gb208]? = some (.cells #[.int .i64 0, (.slice none 0 0), (.slice none 0 0)] 25 (0, 0))) ∧ Aside0 (w'.heap[gb209]? = some (.cells #[.int .i64 a0_0, u210001, u210002] 25 (0, 0))) ∧ Aside0 (Below w.heap.size w w'))
   case atStart => exact ⟨(0), (([] : List (S92))), (.slice none 0 0), (by first | rfl | (simp; done) | (simp only [emptyNe_, emptyEq_]; done) | (simp [*]; done)), H', ⟨Nat.le_refl _⟩, ⟨by (with_reducible repeat (first | apply Kd.R_alloc | apply Kd.R_drewN | apply Kd.R_drew)); exact HO_210001.out⟩, ⟨by first | exact Kd.R_nil _ _ _ _ _ | exact Kd.N_nil _ _ _ _ _ | exact Kd.V_nil _ _ _ _ _ | exact Kd.Q_nil _ _ _ _ _ | exact Kd.S_nil _ _ _ _ _⟩, ⟨by (with_reducible repeat (first | refine blk_drewN ?_ _ | refine blk_drew ?_ | refine blk_alloc ?_ _)); exact BK207.out⟩, ⟨by (with_reducible repeat (first | refine blk_drewN ?_ _ | refine blk_drew ?_ | refine blk_alloc ?_ _)); exact BK208.out⟩, ⟨by (with_reducible repeat (first | refine blk_drewN ?_ _ | refine blk_drew ?_ | refine blk_alloc ?_ _)); exact BK209.out⟩, ⟨by repeat (first | (with_reducible first | exact HB.out | apply below_alloc | apply pw_below_drewN | apply below_drew1 | refine below_set ?_ GE207.out | refine below_set ?_ GE208.out | refine below_set ?_ GE209.out) | exact HB.out)⟩⟩
   case round =>
    clear H'; try clear c1; try clear c2; try clear p2; try clear q2; try clear hx2; try clear c5; try clear p6; try clear c8; try clear c9; try clear c11; try clear c11b0; try clear c12; try clear c12b0; try clear c13; try clear c13b0; try clear c14; try clear c15; try clear c16; try clear p21; try clear q21; try clear hx21; try clear c22; try clear c23; try clear c25; try clear c26; try clear c28; try clear c29; try clear hcz10_0; try clear hcz10_1; try clear hcz10_2; try clear hcz17_0; try clear hcz17_1; try clear hcz17_2; try clear hcz24_0; try clear hcz24_1; try clear hcz24_2; try clear hcz27_0; try clear hcz27_1; try clear hcz27_2; try clear hcz30_0; try clear hcz30_1; try clear hcz30_2; try clear hcz6_0; try clear hcz6_1; try clear hcz6_2; try clear hfz10_0; try clear hfz10_1; try clear hfz10_2; try clear hfz17_0; try clear hfz17_1; try clear hfz17_2; try clear hfz24_0; try clear hfz24_1; try clear hfz24_2; try clear hfz27_0; try clear hfz27_1; try clear hfz27_2; try clear hfz30_0; try clear hfz30_1; try clear hfz30_2; try clear hfz6_0; try clear hfz6_1; try clear hfz6_2; try clear hx210_0; try clear p2; try clear p21; try clear p210; try clear p6; try clear q2; try clear q21; try clear q210
    obtain ⟨x6_2, x210002_2, u210002, rfl, HA, HK2, HO_210001, HO_210002, BK207, BK208, BK209, HB⟩ := hrel
    cases gk with
    | zero => exact absurd HA.out (by simp [logjamlaw36_Own.l1])
    | succ k2 =>
     have H := HA.out
     clear HA
     simp only [logjamlaw36_Own.l1] at H
     by_cases c31 : x6_2 < (l0_2.length : Int)
     ·rw [if_pos c31] at H
      have c31b0 : decide (x6_2 < (l0_2.length : Int)) = true := decide_eq_true c31
      clear c31
      by_cases c32 : x6_2 < 70
      ·rw [if_pos c32] at H
       have c32b0 : decide (x6_2 < 70) = true := decide_eq_true c32
       clear c32
       by_cases c33 : 0 ≤ x6_2
       ·rw [if_pos c33] at H
        have c33b0 := eq_true c33
        have c33b1 : decide (0 ≤ x6_2) = true := decide_eq_true c33
        clear c33
        by_cases c34 : x6_2 ≤ (wrap64 (x6_2 + 1))
        ·rw [if_pos c34] at H
         have c34b0 := eq_true c34
         have c34b1 : decide (x6_2 ≤ (wrap64 (x6_2 + 1))) = true := decide_eq_true c34
         by_cases c35 : (wrap64 (x6_2 + 1)) ≤ (l0_2.length : Int)
         ·rw [if_pos c35] at H
          have c35b0 := eq_true c35
          have c35b1 : decide ((wrap64 (x6_2 + 1)) ≤ (l0_2.length : Int)) = true := decide_eq_true c35
          obtain ⟨y214, hy214⟩ : ∃ y_ : List (S92), y_ = ((l0_2.take ((wrap64 (x6_2 + 1)) : Int).toNat).drop (x6_2 : Int).toNat) := ⟨_, rfl⟩
          replace H : ((logjamlaw26_Own.f k2 y214).bind fun t218 => (if 0 < (t218.length : Int) then (if x210002_2.length < 4398046511104 then (logjamlaw36_Own.l1 k2 l0_2 (wrap64 (x6_2 + 1)) a0_0 x210001_1 (x210002_2 ++ [(⟨(rd_T92 t218 0).f0, (rd_T92 t218 0).f1⟩ : S92)])) else (none)) else (none))) = some (r1, r2, r3) := by first | (rw [hy214]; with_reducible exact H) | (have H2_ := (Option.bind_some _ _).symm.trans H; rw [hy214]; with_reducible exact H2_) | (have H2_ := (Option.bind_some _ _).symm.trans H; with_reducible exact H2_) | with_reducible exact H | (rw [hy214]; exact H) | exact H
          have Ny214 := Aside0.mk hy214
          clear hy214
          replace H := Option.bind_eq_some_iff.mp H
          obtain ⟨t218, A360, H⟩ := H
          replace H : (if 0 < (t218.length : Int) then (if x210002_2.length < 4398046511104 then (logjamlaw36_Own.l1 k2 l0_2 (wrap64 (x6_2 + 1)) a0_0 x210001_1 (x210002_2 ++ [(⟨(rd_T92 t218 0).f0, (rd_T92 t218 0).f1⟩ : S92)])) else (none)) else (none)) = some (r1, r2, r3) := H
          have A36 := Aside0.mk A360
          clear A360
          by_cases c37 : 0 < (t218.length : Int)
          ·rw [if_pos c37] at H
           have c37b0 : decide (0 < (t218.length : Int)) = true := decide_eq_true c37
           have c37b1 : decide (0 < t218.length) = true := decide_eq_true (by omega)
           clear c37
           by_cases c38 : x210002_2.length < 4398046511104
           ·rw [if_pos c38] at H
            have LMc38 := Aside0.mk c38
            clear c38
            obtain ⟨y222, hy222⟩ : ∃ y_ : List (S92), y_ = (x210002_2 ++ [(⟨(rd_T92 t218 0).f0, (rd_T92 t218 0).f1⟩ : S92)]) := ⟨_, rfl⟩
            replace H : (logjamlaw36_Own.l1 k2 l0_2 (wrap64 (x6_2 + 1)) a0_0 x210001_1 y222) = some (r1, r2, r3) := by first | (rw [hy222]; with_reducible exact H) | (have H2_ := (Option.bind_some _ _).symm.trans H; rw [hy222]; with_reducible exact H2_) | (have H2_ := (Option.bind_some _ _).symm.trans H; with_reducible exact H2_) | with_reducible exact H | (rw [hy222]; exact H) | exact H
            have Ny222 := Aside0.mk hy222
            clear hy222
            have H' := Aside0.mk H
            clear H
            try go_wp2
            have n0_ := Aside0.mk (Kd.R_drew HO_210001.out)
            have n1_ := Aside0.mk (Kd.N_drew HO_210002.out)
            have n2_ := Aside0.mk (blk_drew BK207.out)
            have n3_ := Aside0.mk (blk_drew BK208.out)
            have n4_ := Aside0.mk (blk_drew BK209.out)
            have n5_ := Aside0.mk (below_drew1 HB.out)
            clear HO_210001; clear HO_210002; clear BK207; clear BK208; clear BK209; clear HB; have HO_210001 := n0_; have HO_210002 := n1_; have BK207 := n2_; have BK208 := n3_; have BK209 := n4_; have HB := n5_; clear n0_ n1_ n2_ n3_ n4_ n5_
            have q40 : ((wrap64 (x6_2 + 1)) : Int) ≤ ((l0_2.length : Int) : Int) := of_decide_eq_true (by first | (with_reducible assumption) | assumption)
            obtain ⟨i040, hi040, _, hsz40, _⟩ := info_parts info92
            have hroom40 : l0_2.length ≤ c0_2 := HC0_2.out
            have hC40 : Kd.C k92 _ A0_2 l0_2.length l0_2 := HR0_2.out
            have ql40 : (x6_2 : Int) ≤ ((wrap64 (x6_2 + 1)) : Int) := of_decide_eq_true (by first | (with_reducible assumption) | assumption)
            have q040 : (0 : Int) ≤ (x6_2 : Int) := of_decide_eq_true (by first | (with_reducible assumption) | assumption)
            have hcut40 := cut_mid (P := Tryd.prog) 23 92 .i64 .i64 Tryd.underlying23 hi040 2 hsz40 A0_2 l0_2.length c0_2 x6_2 (wrap64 (x6_2 + 1)) q040 ql40 q40 hroom40
            have hr40 := Kd.C_mid (lo := (x6_2 : Int).toNat) (hi := ((wrap64 (x6_2 + 1)) : Int).toNat) (c := c0_2) hC40 (by omega) (by omega) hroom40
            obtain ⟨A40, hA40⟩ : ∃ A1, A1 = (if c0_2 = (x6_2 : Int).toNat then A0_2 else (A0_2 : Option Addr).map (·.add ((x6_2 : Int).toNat * 2))) := ⟨_, rfl⟩
            obtain ⟨c40, hc40⟩ : ∃ c1, c1 = c0_2 - (x6_2 : Int).toNat := ⟨_, rfl⟩
            have hy40 : y214.length = ((wrap64 (x6_2 + 1)) : Int).toNat - (x6_2 : Int).toNat := (by rw [Ny214.out, List.length_drop, List.length_take] <;> omega)
            rw [show ((l0_2).take ((wrap64 (x6_2 + 1)) : Int).toNat).drop (x6_2 : Int).toNat = y214 from Ny214.out.symm] at hr40
            replace hr40 : Kd.C k92 _ A40 y214.length y214 := (by rw [hA40]; exact hr40)
            rw [← hy40, ← hA40, ← hc40] at hcut40
            have HR217 := Aside0.mk hr40
            have HC217 := Aside0.mk (show y214.length ≤ c40 from by rw [hy40, hc40]; exact Nat.sub_le_sub_right (Nat.le_trans (by omega) hroom40) _)
            clear hr40 hC40 hroom40 hi040 hsz40 hc40
            have KY40 := Aside0.mk hy40
            have KA40 := Aside0.mk hA40
            clear hy40 hA40
            replace q40 := eq_true q40
            refine start_ (n := 14) (S := fun w' => w'.cell? ⟨gb209, 0, none⟩ = some (.int .i64 a0_0) ∧ w'.cell? ⟨gb209, 1, none⟩ = some (u210001) ∧ w'.cell? ⟨gb209, 2, none⟩ = some (u210002)) (ds := [13]) #[false, false, false, false, false, false, false, false, false, false, false, false, false, false] (by kernel_rfl) rfl rfl ⟨(blk_cell BK209.out 0).trans rfl, (blk_cell BK209.out 1).trans rfl, (blk_cell BK209.out 2).trans rfl⟩ (fun hHeld => ?_); refine with_tabW logjamlaw36_Own.tab10 logjamlaw36_Own.bits10 (fun HT_ HW_ => ?_)
            generalize wr.drew = w39 at HO_210001 HO_210002 BK207 BK208 BK209 HB HR217 hHeld ⊢
            refine pure_ (i := 0) (N := some 43) (v := ?_) (a' := ?_) #[true, false, false, false, false, false, false, false, false, false, false, false, false, false] rfl rfl (any_of HT_.out (by kernel_rfl)) (fun _ _ _ h => h) (Or.inl ⟨by rfl, ?_⟩) ?_ ?_
            rotate_left
            ·intro w'
             go_simp
             with_reducible rfl
            rotate_left
            ·simp only [Act.put, List.setIfInBounds_toArray, List.set_cons_zero, List.set_cons_succ, i64_w, i32_w]
             rfl
            refine pure_ (i := 2) (N := some 45) (v := ?_) (a' := ?_) #[true, false, true, false, false, false, false, false, false, false, false, false, false, false] rfl rfl (any_of HT_.out (by kernel_rfl)) (fun _ _ _ h => h) (Or.inl ⟨by rfl, ?_⟩) ?_ ?_
            rotate_left
            ·intro w'
             go_simp
             with_reducible rfl
            rotate_left
            ·simp only [Act.put, List.setIfInBounds_toArray, List.set_cons_zero, List.set_cons_succ, i64_w, i32_w]
             rfl
            refine pure_ (i := 3) (N := some 46) (v := ?_) (a' := ?_) #[true, false, true, true, false, false, false, false, false, false, false, false, false, false] rfl rfl (any_of HT_.out (by kernel_rfl)) (fun _ _ _ h => h) (Or.inl ⟨by rfl, ?_⟩) ?_ ?_
            rotate_left
            ·intro w'
             go_simp
             with_reducible rfl
            rotate_left
            ·simp only [Act.put, List.setIfInBounds_toArray, List.set_cons_zero, List.set_cons_succ, i64_w, i32_w]
             rfl
            refine pure_ (i := 4) (N := some 47) (v := ?_) (a' := ?_) #[true, false, true, true, true, false, false, false, false, false, false, false, false, false] rfl rfl (any_of HT_.out (by kernel_rfl)) (fun _ _ _ h => h) (Or.inl ⟨by rfl, ?_⟩) ?_ ?_
            rotate_left
            ·intro w'
             go_simp
             with_reducible rfl
            rotate_left
            ·simp only [Act.put, List.setIfInBounds_toArray, List.set_cons_zero, List.set_cons_succ, i64_w, i32_w]
             rfl
            refine pure_ (i := 5) (N := some 48) (v := ?_) (a' := ?_) #[true, false, true, true, true, true, false, false, false, false, false, false, false, false] rfl rfl (any_of HT_.out (by kernel_rfl)) (fun _ _ _ h => h) (Or.inl ⟨by rfl, ?_⟩) ?_ ?_
            rotate_left
            ·intro w'
             go_simp
             with_reducible rfl
            rotate_left
            ·simp only [Act.put, List.setIfInBounds_toArray, List.set_cons_zero, List.set_cons_succ, i64_w, i32_w]
             rfl
            refine pure_ (i := 6) (N := some 49) (v := ?_) (a' := ?_) #[true, false, true, true, true, true, true, false, false, false, false, false, false, false] rfl rfl (any_of HT_.out (by kernel_rfl)) (fun _ _ _ h => h) (Or.inl ⟨by rfl, ?_⟩) ?_ ?_
            rotate_left
            ·intro w'
             go_simp
             with_reducible rfl
            rotate_left
            ·simp only [Act.put, List.setIfInBounds_toArray, List.set_cons_zero, List.set_cons_succ, i64_w, i32_w]
             rfl
            refine take_ (i := 1) (N := some 44) (v := ?_) (a' := ?_) #[true, true, true, true, true, true, true, false, false, false, false, false, false, false] rfl rfl (take_ofW HT_.out HW_.out (by kernel_rfl)) (fun _ _ _ h => h) (Or.inl ⟨by rfl, ?_⟩) hHeld ?_ ?_
            rotate_left
            ·rintro w' ⟨s0, s1, s2⟩
             go_simp
             with_reducible rfl
            rotate_left
            ·simp only [Act.put, List.setIfInBounds_toArray, List.set_cons_zero, List.set_cons_succ, i64_w, i32_w]
             rfl
            refine one_ (i := 7) (N := some 50) #[true, true, true, true, true, true, true, true, false, false, false, false, false, false] rfl rfl (one_of HT_.out (by kernel_rfl)) (by decide) (fun K hK => ?_)
            refine goes_ Tryd.func14 (by kernel_rfl) rfl #[.slice A40 y214.length c40] (by rfl) rfl rfl (by (try simp only [List.map_toArray, List.map_cons, List.map_nil]); first | done | rfl | (simp only [List.length_drop, List.length_take]; rfl)) ?_
            with_reducible refine (logjamlaw26_Own.calls k2 _ _ y214 t218 _ ?side1 ?side2 A36.out).mono ?_
            (case side1 => repeat (first | exact (Kd.C_below HR217.out HB.out) | (with_reducible refine Kd.C_alloc ?_ _) | (with_reducible refine Kd.C_drewN ?_ _) | (with_reducible refine Kd.C_drew ?_)))
            (case side2 => exact HC217.out)
            rintro e w41 ⟨v219, rfl, ho0, hb⟩
            refine ⟨_, rfl, ?_⟩
            have n0_ := Aside0.mk (Kd.R_below (by (with_reducible repeat (first | apply Kd.R_alloc | apply Kd.R_drewN | apply Kd.R_drew)); exact HO_210001.out) hb)
            have n1_ := Aside0.mk (Kd.N_elder' (by (with_reducible repeat (first | apply Kd.N_alloc | apply Kd.N_drewN | apply Kd.N_drew)); exact HO_210002.out) (Kd.R_base ho0) hb)
            have n2_ := Aside0.mk (Kd.N_lower (Kd.N_mono (ok' := fun k_ => (w.heap.size ≤ k_) ∧ some k_ ≠ (u210001 : Value).ownBlock ∧ some k_ ≠ (u210002 : Value).ownBlock ∧ k_ ≠ gb207 ∧ k_ ≠ gb208 ∧ k_ ≠ gb209) (Kd.R_N (Kd.R_bound ho0)) (fun k_ hk_ => ⟨(Nat.le_trans (below_size (by repeat (first | (with_reducible first | exact HB.out | apply below_alloc | apply pw_below_drewN | apply below_drew1 | refine below_set ?_ GE207.out | refine below_set ?_ GE208.out | refine below_set ?_ GE209.out) | exact HB.out))) hk_.2.1), (Kd.fresh' (Kd.R_lt (by (with_reducible repeat (first | apply Kd.R_alloc | apply Kd.R_drewN | apply Kd.R_drew)); exact HO_210001.out)) k_ hk_.2.1), (Kd.fresh' (Kd.N_lt (by (with_reducible repeat (first | apply Kd.N_alloc | apply Kd.N_drewN | apply Kd.N_drew)); exact HO_210002.out)) k_ hk_.2.1), (Kd.freshB (g := gb207) (o := .cells #[.int .i64 a0_0, .slice A0_1 l0_1.length c0_1, .slice A0_2 l0_2.length c0_2] 25 (0, 0)) (by (with_reducible repeat (first | refine blk_drewN ?_ _ | refine blk_drew ?_ | refine blk_alloc ?_ _)); exact BK207.out) k_ hk_.2.1), (Kd.freshB (g := gb208) (o := .cells #[.int .i64 0, .slice none 0 0, .slice none 0 0] 25 (0, 0)) (by (with_reducible repeat (first | refine blk_drewN ?_ _ | refine blk_drew ?_ | refine blk_alloc ?_ _)); exact BK208.out) k_ hk_.2.1), (Kd.freshB (g := gb209) (o := .cells #[.int .i64 a0_0, u210001, u210002] 25 (0, 0)) (by (with_reducible repeat (first | refine blk_drewN ?_ _ | refine blk_drew ?_ | refine blk_alloc ?_ _)); exact BK209.out) k_ hk_.2.1)⟩)) (below_size (by repeat (first | (with_reducible first | exact HB.out | apply below_alloc | apply pw_below_drewN | apply below_drew1 | refine below_set ?_ GE207.out | refine below_set ?_ GE208.out | refine below_set ?_ GE209.out) | exact HB.out))))
            have n3_ := Aside0.mk (blk_below (g := gb207) (o := .cells #[.int .i64 a0_0, .slice A0_1 l0_1.length c0_1, .slice A0_2 l0_2.length c0_2] 25 (0, 0)) (by (with_reducible repeat (first | refine blk_drewN ?_ _ | refine blk_drew ?_ | refine blk_alloc ?_ _)); exact BK207.out) hb)
            have n4_ := Aside0.mk (blk_below (g := gb208) (o := .cells #[.int .i64 0, .slice none 0 0, .slice none 0 0] 25 (0, 0)) (by (with_reducible repeat (first | refine blk_drewN ?_ _ | refine blk_drew ?_ | refine blk_alloc ?_ _)); exact BK208.out) hb)
            have n5_ := Aside0.mk (blk_below (g := gb209) (o := .cells #[.int .i64 a0_0, u210001, u210002] 25 (0, 0)) (by (with_reducible repeat (first | refine blk_drewN ?_ _ | refine blk_drew ?_ | refine blk_alloc ?_ _)); exact BK209.out) hb)
            have n6_ := Aside0.mk (below_step (by repeat (first | (with_reducible first | exact HB.out | apply below_alloc | apply pw_below_drewN | apply below_drew1 | refine below_set ?_ GE207.out | refine below_set ?_ GE208.out | refine below_set ?_ GE209.out) | exact HB.out)) hb)
            clear HO_210001; clear HO_210002; clear BK207; clear BK208; clear BK209; clear HB; have HO_210001 := n0_; have HO_210002 := n1_; have HO220 := n2_; have BK207 := n3_; have BK208 := n4_; have BK209 := n5_; have HB := n6_; clear n0_ n1_ n2_ n3_ n4_ n5_ n6_; (try clear hb); (try clear hb2); (try clear hk); (try clear hi); (try clear ho0)
            obtain ⟨Ao42, co42, eo42⟩ := Kd.N_slice HO220.out
            (first | subst eo42 | (injection eo42 with f1_ f2_ f3_; have f4_ := f1_.symm; have f5_ := f3_.symm; clear f1_ f2_ f3_; subst f4_; subst f5_))
            have p221 : 0 ≤ (0 : Int) := (by omega)
            have q221 : 0 < (t218.length : Int) := of_decide_eq_true (by first | (with_reducible assumption) | assumption)
            obtain ⟨ad221, A221_1, c221_1, e221, hx221_0, hx221_1, hl221_1, hi221_1⟩ := at_T92 (Kd.N_reads' HO220.out).2.2 0 p221 q221
            cases e221
            obtain ⟨ce221, hce221, hMe221, hcc221⟩ := Kd.N_get HO220.out z92 0 p221 (by first | exact q221 | exact of_decide_eq_true (by first | (with_reducible assumption) | assumption) | (have e_ := (Kd.N_reads' HO220.out).1; omega))
            obtain ⟨ua221_1, uc221_1, rfl, ul221_1, ge221_1⟩ := k92_openF hMe221
            have hv221_1 := hcc221 1 _ rfl
            rw [add_field _ _ 1 (by omega)] at hv221_1
            replace hv221_1 := Option.some.inj (hv221_1.symm.trans hx221_1)
            injection hv221_1 with hva_ hvn_ hvc_
            rw [hva_] at ge221_1
            rw [hvc_] at ul221_1
            have HL221_1 := Aside0.mk (show Kd.V (Kd.slice 96 k96) 93 _ w.heap.size _ _ ((rd_T92 t218 0).f1) from Kd.V_mk ul221_1 ge221_1)
            clear hva_ hvn_ hvc_ ge221_1 ul221_1; clear hcc221 hce221
            have qi221 : (0 < t218.length) = True := eq_true (by omega)
            (try rw [show ((0 : Int)).toNat = 0 from rfl] at hx221_0)
            (try rw [show 0 * 2 = 0 from rfl] at hx221_0)
            (try rw [Addr.add_zero'] at hx221_0)
            (try rw [show ((0 : Int)).toNat = 0 from rfl] at hx221_1)
            (try rw [show 0 * 2 = 0 from rfl] at hx221_1)
            (try rw [Addr.add_zero'] at hx221_1)
            have HR221_1 := Aside0.mk hi221_1
            have HC221_1 := Aside0.mk hl221_1
            clear hi221_1 hl221_1
            replace p221 := eq_true p221
            replace q221 := eq_true q221
            refine hK.out _ _ ⟨(blk_cell BK209.out 0).trans rfl, (blk_cell BK209.out 1).trans rfl, (blk_cell BK209.out 2).trans rfl⟩ (fun hHeld => ?_)
            clear hK K
            refine norm_ (a' := ?_) ?_ ?_
            rotate_left
            ·show Act.put _ (some 50) _ = _
             simp only [Act.put, List.setIfInBounds_toArray, List.set_cons_zero, List.set_cons_succ, i64_w, i32_w]
             rfl
            refine pure_ (i := 8) (N := some 51) (v := ?_) (a' := ?_) #[true, true, true, true, true, true, true, true, true, false, false, false, false, false] rfl rfl (any_of HT_.out (by kernel_rfl)) (fun _ _ _ h => h) (Or.inl ⟨by rfl, ?_⟩) ?_ ?_
            rotate_left
            ·intro w'
             go_simp
             with_reducible rfl
            rotate_left
            ·simp only [Act.put, List.setIfInBounds_toArray, List.set_cons_zero, List.set_cons_succ, i64_w, i32_w]
             rfl
            refine one_ (i := 9) (N := some 52) #[true, true, true, true, true, true, true, true, true, true, false, false, false, false] rfl rfl (one_of HT_.out (by kernel_rfl)) (by decide) (fun K hK => ?_)
            refine value_ (w1 := ?_) (v := ?_) (by rfl) rfl ?_ ?_
            rotate_left 2
            ·go_simp
             constructor
             ·rfl
             ·rfl
            refine hK.out _ _ ⟨hHeld.1, hHeld.2.1, hHeld.2.2⟩ (fun hHeld => ?_)
            clear hK K
            refine norm_ (a' := ?_) ?_ ?_
            rotate_left
            ·show Act.put _ (some 52) _ = _
             simp only [Act.put, List.setIfInBounds_toArray, List.set_cons_zero, List.set_cons_succ, i64_w, i32_w]
             rfl
            refine one_ (i := 10) (N := some 53) #[true, true, true, true, true, true, true, true, true, true, true, false, false, false] rfl rfl (one_of HT_.out (by kernel_rfl)) (by decide) (fun K hK => ?_)
            refine value_ (w1 := ?_) (v := ?_) (by rfl) rfl ?_ ?_
            rotate_left 2
            ·go_simp
             constructor
             ·rfl
             ·rfl
            refine hK.out _ _ ⟨(blk_cell (blk_alloc BK209.out _) 0).trans rfl, (blk_cell (blk_alloc BK209.out _) 1).trans rfl, (blk_cell (blk_alloc BK209.out _) 2).trans rfl⟩ (fun hHeld => ?_)
            clear hK K
            refine norm_ (a' := ?_) ?_ ?_
            rotate_left
            ·show Act.put _ (some 53) _ = _
             simp only [Act.put, List.setIfInBounds_toArray, List.set_cons_zero, List.set_cons_succ, i64_w, i32_w]
             rfl
            refine one_ (i := 11) (N := some 54) #[true, true, true, true, true, true, true, true, true, true, true, true, false, false] rfl rfl (one_of HT_.out (by kernel_rfl)) (by decide) (fun K hK => ?_)
            refine Kd.N_append_step k92 (w0 := w) w.heap.size (by rfl) (.tmp 44) (.tmp 53) 23 92 (.agg #[(.bool false), (.slice none 0 0)]) 32 rfl Tryd.underlying23 info92 rfl (by decide) (by omega) u210002 x210002_2 (⟨(rd_T92 t218 0).f0, (rd_T92 t218 0).f1⟩ : S92) [.bool ((rd_T92 t218 0).f0), .slice A221_1 ((rd_T92 t218 0).f1).length c221_1] (fun k_ => (w.heap.size ≤ k_) ∧ some k_ ≠ (u210001 : Value).ownBlock ∧ some k_ ≠ (.slice (some ad221) t218.length co42 : Value).ownBlock ∧ k_ ≠ gb207 ∧ k_ ≠ gb208 ∧ k_ ≠ gb209) (fun k_ => ((fun k_ => (w.heap.size ≤ k_) ∧ some k_ ≠ (u210001 : Value).ownBlock ∧ some k_ ≠ (.slice (some ad221) t218.length co42 : Value).ownBlock ∧ k_ ≠ gb207 ∧ k_ ≠ gb208 ∧ k_ ≠ gb209)) k_ ∧ some k_ ≠ (u210002 : Value).ownBlock) rfl rfl ?aP (fun _ hk => hk) ?aF ?aO ?aB ?aS ?aL ?_
            (case aP => exact (k92_mkF _ _ (⟨(rd_T92 t218 0).f0, (rd_T92 t218 0).f1⟩ : S92) (Kd.V_reads' (Kd.V_mono (ok' := (fun k_ => ((fun k_ => (w.heap.size ≤ k_) ∧ some k_ ≠ (u210001 : Value).ownBlock ∧ some k_ ≠ (.slice (some ad221) t218.length co42 : Value).ownBlock ∧ k_ ≠ gb207 ∧ k_ ≠ gb208 ∧ k_ ≠ gb209)) k_ ∧ some k_ ≠ (u210002 : Value).ownBlock)) (HL221_1.out) (fun k_ hk => ⟨⟨hk.1.1, ⟨hk.1.2.1, ⟨hk.2, ⟨hk.1.2.2.2.1, ⟨hk.1.2.2.2.2.1, hk.1.2.2.2.2.2⟩⟩⟩⟩⟩, hk.1.2.2.1⟩))).2.1 (Kd.V_F (Kd.V_mono (ok' := (fun k_ => ((fun k_ => (w.heap.size ≤ k_) ∧ some k_ ≠ (u210001 : Value).ownBlock ∧ some k_ ≠ (.slice (some ad221) t218.length co42 : Value).ownBlock ∧ k_ ≠ gb207 ∧ k_ ≠ gb208 ∧ k_ ≠ gb209)) k_ ∧ some k_ ≠ (u210002 : Value).ownBlock)) (HL221_1.out) (fun k_ hk => ⟨⟨hk.1.1, ⟨hk.1.2.1, ⟨hk.2, ⟨hk.1.2.2.2.1, ⟨hk.1.2.2.2.2.1, hk.1.2.2.2.2.2⟩⟩⟩⟩⟩, hk.1.2.2.1⟩)))))
            (case aB => exact (by repeat (first | (with_reducible first | exact HB.out | apply below_alloc | apply pw_below_drewN | apply below_drew1 | refine below_set ?_ GE207.out | refine below_set ?_ GE208.out | refine below_set ?_ GE209.out) | exact HB.out)))
            (case aF => exact (fun k_ hk => ⟨(Nat.le_trans (below_size (by repeat (first | (with_reducible first | exact HB.out | apply below_alloc | apply pw_below_drewN | apply below_drew1 | refine below_set ?_ GE207.out | refine below_set ?_ GE208.out | refine below_set ?_ GE209.out) | exact HB.out))) hk), Kd.fresh' (Kd.R_lt (by (with_reducible repeat (first | apply Kd.R_alloc | apply Kd.R_drewN | apply Kd.R_drew)); exact HO_210001.out)) k_ hk, Kd.fresh' (Kd.N_lt (by (with_reducible repeat (first | apply Kd.N_alloc | apply Kd.N_drewN | apply Kd.N_drew)); exact HO220.out)) k_ hk, Kd.freshB (g := gb207) (o := .cells #[.int .i64 a0_0, .slice A0_1 l0_1.length c0_1, .slice A0_2 l0_2.length c0_2] 25 (0, 0)) (by (with_reducible repeat (first | refine blk_drewN ?_ _ | refine blk_drew ?_ | refine blk_alloc ?_ _)); exact BK207.out) k_ hk, Kd.freshB (g := gb208) (o := .cells #[.int .i64 0, .slice none 0 0, .slice none 0 0] 25 (0, 0)) (by (with_reducible repeat (first | refine blk_drewN ?_ _ | refine blk_drew ?_ | refine blk_alloc ?_ _)); exact BK208.out) k_ hk, Kd.freshB (g := gb209) (o := .cells #[.int .i64 a0_0, u210001, u210002] 25 (0, 0)) (by (with_reducible repeat (first | refine blk_drewN ?_ _ | refine blk_drew ?_ | refine blk_alloc ?_ _)); exact BK209.out) k_ hk⟩))
            (case aO => exact (by (with_reducible repeat (first | apply Kd.N_alloc | apply Kd.N_drewN | apply Kd.N_drew)); exact Kd.N_mono HO_210002.out (fun _ hk => ⟨hk.1.1, ⟨hk.1.2.1, ⟨hk.2, ⟨hk.1.2.2.1, ⟨hk.1.2.2.2.1, hk.1.2.2.2.2⟩⟩⟩⟩⟩)))
            (case aS => exact (below_size (by repeat (first | (with_reducible first | exact HB.out | apply below_alloc | apply pw_below_drewN | apply below_drew1 | refine below_set ?_ GE207.out | refine below_set ?_ GE208.out | refine below_set ?_ GE209.out) | exact HB.out))))
            (case aL => have := LMc38.out; omega)
            intro v223 w43 ho hb hg hat
            rw [← Ny222.out] at ho
            have n0_ := Aside0.mk (Kd.R_over' (by (with_reducible repeat (first | apply Kd.R_alloc | apply Kd.R_drewN | apply Kd.R_drew)); exact HO_210001.out) (Kd.N_typed (by (with_reducible repeat (first | apply Kd.N_alloc | apply Kd.N_drewN | apply Kd.N_drew)); exact HO_210002.out)) (by decide) hg)
            have n1_ := Aside0.mk (blk_grown (g := gb207) (o := .cells #[.int .i64 a0_0, .slice A0_1 l0_1.length c0_1, .slice A0_2 l0_2.length c0_2] 25 (0, 0)) (by (with_reducible repeat (first | refine blk_drewN ?_ _ | refine blk_drew ?_ | refine blk_alloc ?_ _)); exact BK207.out) hg (Kd.N_ne HO_210002.out BK207.out (by decide)))
            have n2_ := Aside0.mk (blk_grown (g := gb208) (o := .cells #[.int .i64 0, .slice none 0 0, .slice none 0 0] 25 (0, 0)) (by (with_reducible repeat (first | refine blk_drewN ?_ _ | refine blk_drew ?_ | refine blk_alloc ?_ _)); exact BK208.out) hg (Kd.N_ne HO_210002.out BK208.out (by decide)))
            have n3_ := Aside0.mk (blk_grown (g := gb209) (o := .cells #[.int .i64 a0_0, u210001, u210002] 25 (0, 0)) (by (with_reducible repeat (first | refine blk_drewN ?_ _ | refine blk_drew ?_ | refine blk_alloc ?_ _)); exact BK209.out) hg (Kd.N_ne HO_210002.out BK209.out (by decide)))
            have n4_ := Aside0.mk (Kd.N_afterv (ok := (fun k_ => (w.heap.size ≤ k_) ∧ some k_ ≠ (u210001 : Value).ownBlock ∧ k_ ≠ gb207 ∧ k_ ≠ gb208 ∧ k_ ≠ gb209)) (by (with_reducible repeat (first | apply Kd.N_alloc | apply Kd.N_drewN | apply Kd.N_drew)); exact Kd.N_mono HO220.out (fun _ hk => ⟨⟨hk.1, ⟨hk.2.1, ⟨hk.2.2.2.1, ⟨hk.2.2.2.2.1, hk.2.2.2.2.2⟩⟩⟩⟩, hk.2.2.1⟩)) hg hat)
            have n5_ := Aside0.mk (Kd.V_afterv (ok := (fun k_ => (w.heap.size ≤ k_) ∧ some k_ ≠ (u210001 : Value).ownBlock ∧ some k_ ≠ (.slice (some ad221) t218.length co42 : Value).ownBlock ∧ k_ ≠ gb207 ∧ k_ ≠ gb208 ∧ k_ ≠ gb209)) (by (with_reducible repeat (first | apply Kd.V_alloc | apply Kd.V_drewN | apply Kd.V_drew)); exact Kd.V_mono HL221_1.out (fun _ hk => ⟨⟨hk.1.1, ⟨hk.1.2.1, ⟨hk.2, ⟨hk.1.2.2.2.1, ⟨hk.1.2.2.2.2.1, hk.1.2.2.2.2.2⟩⟩⟩⟩⟩, hk.1.2.2.1⟩)) hg hat)
            have n6_ := Aside0.mk (hb)
            have n7_ := Aside0.mk (ho)
            clear HO_210001; clear BK207; clear BK208; clear BK209; clear HO220; clear HL221_1; clear HB; clear HO_210002; have HO_210001 := n0_; have BK207 := n1_; have BK208 := n2_; have BK209 := n3_; have HO220 := n4_; have HL221_1 := n5_; have HB := n6_; have HO224 := n7_; clear n0_ n1_ n2_ n3_ n4_ n5_ n6_ n7_; clear ho hb hg hat
            obtain ⟨Ao44, co44, eo44⟩ := Kd.N_slice HO224.out
            (first | subst eo44 | (injection eo44 with f1_ f2_ f3_; have f4_ := f1_.symm; have f5_ := f3_.symm; clear f1_ f2_ f3_; subst f4_; subst f5_))
            refine hK.out _ _ ⟨(blk_cell BK209.out 0).trans rfl, (blk_cell BK209.out 1).trans rfl, (blk_cell BK209.out 2).trans rfl⟩ (fun hHeld => ?_)
            clear hK K
            refine norm_ (a' := ?_) ?_ ?_
            rotate_left
            ·show Act.put _ (some 54) _ = _
             simp only [Act.put, List.setIfInBounds_toArray, List.set_cons_zero, List.set_cons_succ, i64_w, i32_w]
             rfl
            refine pure_ (i := 12) (N := some 55) (v := ?_) (a' := ?_) #[true, true, true, true, true, true, true, true, true, true, true, true, true, false] rfl rfl (any_of HT_.out (by kernel_rfl)) (fun _ _ _ h => h) (Or.inl ⟨by rfl, ?_⟩) ?_ ?_
            rotate_left
            ·intro w'
             go_simp
             with_reducible rfl
            rotate_left
            ·simp only [Act.put, List.setIfInBounds_toArray, List.set_cons_zero, List.set_cons_succ, i64_w, i32_w]
             rfl
            refine last_ (i := 13) (N := none) #[true, true, true, true, true, true, true, true, true, true, true, true, true, true] rfl rfl (one_of HT_.out (by kernel_rfl)) (by decide) (fun K hK => ?_)
            have hs45 : w43.cell? ⟨gb209, 2, none⟩ = some (u210002) := (blk_cell BK209.out 2).trans rfl
            have hfs45 := blk_frozen BK209.out 2
            have hns45_0 := NB207_209.out
            have hns45_1 := NB208_209.out
            have hms45_0 := NB209_207.out
            have hms45_1 := NB209_208.out
            refine skip_ (w1 := ?_) (by rfl) rfl ?_ ?_
            rotate_left
            ·go_simp
             rfl
            refine hK.out _ _ ?_
            clear hK K
            refine done_ (done_of HT_.out (by kernel_rfl)) ?_
            try go_wp2
            go_roundg k2
            case measure => have := HJ1.out; have := HK2.out; omega
            case rel => exact ⟨(wrap64 (x6_2 + 1)), (y222), (.slice Ao44 y222.length co44), (by first | rfl | (simp; done) | (simp only [emptyNe_, emptyEq_]; done) | (simp [*]; done)), H', ⟨by have := HJ1.out; have := HK2.out; omega⟩, ⟨by (with_reducible repeat (first | apply Kd.R_alloc | apply Kd.R_drewN | apply Kd.R_drew)); exact Kd.R_mono (Kd.R_far (p := ⟨gb209, 2, none⟩) (Kd.R_types HO_210001.out BK209.out (by decide)) (fun _ hk => hk.2) (.slice Ao44 y222.length co44)) (fun _ hk => hk.1)⟩, ⟨by (with_reducible repeat (first | apply Kd.N_alloc | apply Kd.N_drewN | apply Kd.N_drew)); exact Kd.N_mono (Kd.N_far (p := ⟨gb209, 2, none⟩) (Kd.N_mono HO224.out (fun k_ hk => (⟨hk, hk.2.2.2.2.2⟩ : _ ∧ k_ ≠ gb209))) (fun _ hk => hk.2) (.slice Ao44 y222.length co44)) (fun _ hk => ⟨hk.1.1, ⟨hk.1.2.1, ⟨hk.1.2.2.2.1, ⟨hk.1.2.2.2.2.1, hk.1.2.2.2.2.2⟩⟩⟩⟩)⟩, ⟨by (with_reducible repeat (first | refine blk_drewN ?_ _ | refine blk_drew ?_ | refine blk_alloc ?_ _)); refine blk_far ?_ NB207_209.out _; (with_reducible repeat (first | refine blk_drewN ?_ _ | refine blk_drew ?_ | refine blk_alloc ?_ _)); exact BK207.out⟩, ⟨by (with_reducible repeat (first | refine blk_drewN ?_ _ | refine blk_drew ?_ | refine blk_alloc ?_ _)); refine blk_far ?_ NB208_209.out _; (with_reducible repeat (first | refine blk_drewN ?_ _ | refine blk_drew ?_ | refine blk_alloc ?_ _)); exact BK208.out⟩, ⟨by (with_reducible repeat (first | refine blk_drewN ?_ _ | refine blk_drew ?_ | refine blk_alloc ?_ _)); refine blk_put (cs := #[.int .i64 a0_0, u210001, u210002]) ?_ 2 _ rfl; (with_reducible repeat (first | refine blk_drewN ?_ _ | refine blk_drew ?_ | refine blk_alloc ?_ _)); exact BK209.out⟩, ⟨by repeat (first | (with_reducible first | exact HB.out | apply below_alloc | apply pw_below_drewN | apply below_drew1 | refine below_set ?_ GE207.out | refine below_set ?_ GE208.out | refine below_set ?_ GE209.out) | exact HB.out)⟩⟩
           ·rw [if_neg c38] at H
            exact absurd H (by simp)
          ·rw [if_neg c37] at H
           exact absurd H (by simp)
         ·rw [if_neg c35] at H
          exact absurd H (by simp)
        ·rw [if_neg c34] at H
         exact absurd H (by simp)
       ·rw [if_neg c33] at H
        exact absurd H (by simp)
      ·rw [if_neg c32] at H
       have c32b0 : decide (x6_2 < 70) = false := decide_eq_false c32
       clear c32
       simp only [Option.some.injEq, Prod.mk.injEq] at H
       obtain ⟨rfl, rfl, rfl⟩ := H
       have hnb46 := NB209_207.out
       have hnc46 := NB207_209.out
       have hnb47 := NB209_208.out
       have hnc47 := NB208_209.out
       have hcz48_0 : wr.cell? ⟨gb209, 0, none⟩ = some (.int .i64 a0_0) := (blk_cell BK209.out 0).trans rfl
       have hcz48_1 : wr.cell? ⟨gb209, 1, none⟩ = some (u210001) := (blk_cell BK209.out 1).trans rfl
       have hcz48_2 : wr.cell? ⟨gb209, 2, none⟩ = some (u210002) := (blk_cell BK209.out 2).trans rfl
       have hfz48_0 := blk_frozen BK209.out 0
       have hfz48_1 := blk_frozen BK209.out 1
       have hfz48_2 := blk_frozen BK209.out 2
       have hnb49 := NB208_207.out
       have hnc49 := NB207_208.out
       have hcz50_0 : wr.cell? ⟨gb208, 0, none⟩ = some (.int .i64 0) := (blk_cell BK208.out 0).trans rfl
       have hcz50_1 : wr.cell? ⟨gb208, 1, none⟩ = some (.slice none 0 0) := (blk_cell BK208.out 1).trans rfl
       have hcz50_2 : wr.cell? ⟨gb208, 2, none⟩ = some (.slice none 0 0) := (blk_cell BK208.out 2).trans rfl
       have hfz50_0 := blk_frozen BK208.out 0
       have hfz50_1 := blk_frozen BK208.out 1
       have hfz50_2 := blk_frozen BK208.out 2
       obtain ⟨Ao51, co51, eo51⟩ := Kd.R_slice HO_210001.out
       subst eo51
       obtain ⟨Ao52, co52, eo52⟩ := Kd.N_slice HO_210002.out
       subst eo52
       go_wp2
       refine bodyPost_ret (results_cell_row rfl _ _ gb208 25 #[.int .i64 a0_0, .slice Ao51 x210001_1.length co51, .slice Ao52 x210002_2.length co52] (0, 0) _ rfl (by (with_reducible repeat (first | refine blk_drewN ?_ _ | refine blk_drew ?_ | refine blk_alloc ?_ _)); refine blk_put (cs := #[.int .i64 a0_0, .slice Ao51 x210001_1.length co51, .slice none 0 0]) ?_ 2 _ rfl; (with_reducible repeat (first | refine blk_drewN ?_ _ | refine blk_drew ?_ | refine blk_alloc ?_ _)); refine blk_put (cs := #[.int .i64 a0_0, .slice none 0 0, .slice none 0 0]) ?_ 1 _ rfl; (with_reducible repeat (first | refine blk_drewN ?_ _ | refine blk_drew ?_ | refine blk_alloc ?_ _)); refine blk_put (cs := #[.int .i64 0, .slice none 0 0, .slice none 0 0]) ?_ 0 _ rfl; (with_reducible repeat (first | refine blk_drewN ?_ _ | refine blk_drew ?_ | refine blk_alloc ?_ _)); exact BK208.out) Tryd.underlying25 rfl (by kernel_rfl)) rfl ?_
       exact ⟨_, _, by first | rfl | (simp [errW_none, errW_some] <;> rfl) | (simp [*, errW_none, errW_some] <;> rfl), by (with_reducible repeat (first | apply Kd.R_alloc | apply Kd.R_drewN | apply Kd.R_drew)); exact Kd.R_mono (Kd.R_far (p := ⟨gb208, 2, none⟩) (Kd.R_far (p := ⟨gb208, 1, none⟩) (Kd.R_far (p := ⟨gb208, 0, none⟩) (Kd.R_types HO_210001.out BK208.out (by decide)) (fun _ hk => hk.2) (.int .i64 a0_0)) (fun _ hk => hk.2) (.slice Ao51 x210001_1.length co51)) (fun _ hk => hk.2) (.slice Ao52 x210002_2.length co52)) (fun _ hk => hk.1), by (with_reducible repeat (first | apply Kd.N_alloc | apply Kd.N_drewN | apply Kd.N_drew)); exact Kd.N_mono (Kd.N_far (p := ⟨gb208, 2, none⟩) (Kd.N_far (p := ⟨gb208, 1, none⟩) (Kd.N_far (p := ⟨gb208, 0, none⟩) (Kd.N_mono HO_210002.out (fun k_ hk => (⟨hk, hk.2.2.2.1⟩ : _ ∧ k_ ≠ gb208))) (fun _ hk => hk.2) (.int .i64 a0_0)) (fun _ hk => hk.2) (.slice Ao51 x210001_1.length co51)) (fun _ hk => hk.2) (.slice Ao52 x210002_2.length co52)) (fun _ hk => ⟨hk.1.1, hk.1.2.1⟩), by repeat (first | (with_reducible first | exact HB.out | apply below_alloc | apply pw_below_drewN | apply below_drew1 | refine below_set ?_ GE207.out | refine below_set ?_ GE208.out | refine below_set ?_ GE209.out) | exact HB.out)⟩
     ·rw [if_neg c31] at H
      have c31b0 : decide (x6_2 < (l0_2.length : Int)) = false := decide_eq_false c31
      clear c31
      simp only [Option.some.injEq, Prod.mk.injEq] at H
      obtain ⟨rfl, rfl, rfl⟩ := H
      have hnb53 := NB209_207.out
      have hnc53 := NB207_209.out
      have hnb54 := NB209_208.out
      have hnc54 := NB208_209.out
      have hcz55_0 : wr.cell? ⟨gb209, 0, none⟩ = some (.int .i64 a0_0) := (blk_cell BK209.out 0).trans rfl
      have hcz55_1 : wr.cell? ⟨gb209, 1, none⟩ = some (u210001) := (blk_cell BK209.out 1).trans rfl
      have hcz55_2 : wr.cell? ⟨gb209, 2, none⟩ = some (u210002) := (blk_cell BK209.out 2).trans rfl
      have hfz55_0 := blk_frozen BK209.out 0
      have hfz55_1 := blk_frozen BK209.out 1
      have hfz55_2 := blk_frozen BK209.out 2
      have hnb56 := NB208_207.out
      have hnc56 := NB207_208.out
      have hcz57_0 : wr.cell? ⟨gb208, 0, none⟩ = some (.int .i64 0) := (blk_cell BK208.out 0).trans rfl
      have hcz57_1 : wr.cell? ⟨gb208, 1, none⟩ = some (.slice none 0 0) := (blk_cell BK208.out 1).trans rfl
      have hcz57_2 : wr.cell? ⟨gb208, 2, none⟩ = some (.slice none 0 0) := (blk_cell BK208.out 2).trans rfl
      have hfz57_0 := blk_frozen BK208.out 0
      have hfz57_1 := blk_frozen BK208.out 1
      have hfz57_2 := blk_frozen BK208.out 2
      obtain ⟨Ao58, co58, eo58⟩ := Kd.R_slice HO_210001.out
      subst eo58
      obtain ⟨Ao59, co59, eo59⟩ := Kd.N_slice HO_210002.out
      subst eo59
      go_wp2
      refine bodyPost_ret (results_cell_row rfl _ _ gb208 25 #[.int .i64 a0_0, .slice Ao58 x210001_1.length co58, .slice Ao59 x210002_2.length co59] (0, 0) _ rfl (by (with_reducible repeat (first | refine blk_drewN ?_ _ | refine blk_drew ?_ | refine blk_alloc ?_ _)); refine blk_put (cs := #[.int .i64 a0_0, .slice Ao58 x210001_1.length co58, .slice none 0 0]) ?_ 2 _ rfl; (with_reducible repeat (first | refine blk_drewN ?_ _ | refine blk_drew ?_ | refine blk_alloc ?_ _)); refine blk_put (cs := #[.int .i64 a0_0, .slice none 0 0, .slice none 0 0]) ?_ 1 _ rfl; (with_reducible repeat (first | refine blk_drewN ?_ _ | refine blk_drew ?_ | refine blk_alloc ?_ _)); refine blk_put (cs := #[.int .i64 0, .slice none 0 0, .slice none 0 0]) ?_ 0 _ rfl; (with_reducible repeat (first | refine blk_drewN ?_ _ | refine blk_drew ?_ | refine blk_alloc ?_ _)); exact BK208.out) Tryd.underlying25 rfl (by kernel_rfl)) rfl ?_
      exact ⟨_, _, by first | rfl | (simp [errW_none, errW_some] <;> rfl) | (simp [*, errW_none, errW_some] <;> rfl), by (with_reducible repeat (first | apply Kd.R_alloc | apply Kd.R_drewN | apply Kd.R_drew)); exact Kd.R_mono (Kd.R_far (p := ⟨gb208, 2, none⟩) (Kd.R_far (p := ⟨gb208, 1, none⟩) (Kd.R_far (p := ⟨gb208, 0, none⟩) (Kd.R_types HO_210001.out BK208.out (by decide)) (fun _ hk => hk.2) (.int .i64 a0_0)) (fun _ hk => hk.2) (.slice Ao58 x210001_1.length co58)) (fun _ hk => hk.2) (.slice Ao59 x210002_2.length co59)) (fun _ hk => hk.1), by (with_reducible repeat (first | apply Kd.N_alloc | apply Kd.N_drewN | apply Kd.N_drew)); exact Kd.N_mono (Kd.N_far (p := ⟨gb208, 2, none⟩) (Kd.N_far (p := ⟨gb208, 1, none⟩) (Kd.N_far (p := ⟨gb208, 0, none⟩) (Kd.N_mono HO_210002.out (fun k_ hk => (⟨hk, hk.2.2.2.1⟩ : _ ∧ k_ ≠ gb208))) (fun _ hk => hk.2) (.int .i64 a0_0)) (fun _ hk => hk.2) (.slice Ao58 x210001_1.length co58)) (fun _ hk => hk.2) (.slice Ao59 x210002_2.length co59)) (fun _ hk => ⟨hk.1.1, hk.1.2.1⟩), by repeat (first | (with_reducible first | exact HB.out | apply below_alloc | apply pw_below_drewN | apply below_drew1 | refine below_set ?_ GE207.out | refine below_set ?_ GE208.out | refine below_set ?_ GE209.out) | exact HB.out)⟩
end Go.Proofs.YtadepdeckapgcaaDoor.PRp
end

section
namespace Go.Proofs.YtadepdeckapgcaaDoor.Orc
open Go.RowKit Go.Proofs.YtadepdeckapgcaaDoorW.PrintWords
set_option linter.unusedVariables false
set_option linter.unusedSimpArgs false
def IsB (B b : Nat) (L : List UInt8) (w : World) : Prop := Lib.IsBuilder 125 5 B b (Lib.byteCells L) w
theorem IsB.below {B b : Nat} {L : List UInt8} {w w' : World} (h : IsB B b L w) (hb : Below w.heap.size w w') : IsB B b L w' := by
  have key : ∀ p : Value, Lib.BuilderAt 125 5 B b p (Lib.byteCells L) w → Lib.BuilderAt 125 5 B b p (Lib.byteCells L) w' := by
    intro p hp
    have hlt := hp.lt
    obtain ⟨hB, v, hv, ho, hn⟩ := hp
    exact ⟨hB, v, by rw [hb.block b hlt]; exact hv, pw_own_below ho hb, hn⟩
  rcases h with h | h
  · exact .inl (key _ h)
  · exact .inr (key _ h)
theorem IsB.lt {B b : Nat} {L : List UInt8} {w : World} (h : IsB B b L w) : b < w.heap.size := by
  rcases h with h | h
  · exact h.lt
  · exact h.lt
theorem IsB.fresh (w : World) : IsB w.heap.size w.heap.size [] (w.alloc (.cells #[.pointer none, .slice none 0 0] 125)) := Lib.fresh_isBuilder _ _ w
theorem bWrite (B b : Nat) (L : List UInt8) (s : ByteArray) (w : World) (h : IsB B b L w) (hlen : L.length + s.size ≤ 140737488355328) (hBw : B ≤ w.heap.size) :
    Calls Tryd.prog 81 #[.pointer (some ⟨b, 0, none⟩), .string s] w fun e w' => e = .returned (.tuple #[.int .i64 s.size, .nilIface]) ∧ IsB B b (L ++ s.data.toList) w' ∧ Below B w w' := by
  refine (Any.Builder_WriteString (ρ := Tryd.lays156_ren) { Tryd.lays156 with } Tryd.Builder_Extra_156 B b (Lib.byteCells L) s w h (by simpa [Lib.byteCells] using hlen) hBw).mono ?_
  rintro e w' ⟨rfl, h1, h2⟩
  refine ⟨rfl, .inr ?_, h2⟩
  have : Lib.byteCells (L ++ s.data.toList) = Lib.byteCells L ++ Lib.strCells s := by simp [Lib.byteCells, Lib.strCells]
  rw [this]; exact h1
theorem bString (B b : Nat) (L : List UInt8) (w : World) (h : IsB B b L w) (hBw : B ≤ w.heap.size) :
    Calls Tryd.prog 84 #[.pointer (some ⟨b, 0, none⟩)] w fun e w' => e = .returned (.string ⟨L.toArray⟩) ∧ Below B w w' :=
  Tryd.Builder_String_any B b L w h hBw
end Go.Proofs.YtadepdeckapgcaaDoor.Orc
end

section
namespace Go.Proofs.YtadepdeckapgcaaDoor.Rp
open Go.RowKit Go.Proofs.YtadepdeckapgcaaDoorW.PrintWords Go.Proofs.YtadepdeckapgcaaDoorW.PrintLast Go.Proofs.YtadepdeckapgcaaDoorW.PrintMore Go.Proofs.YtadepdeckapgcaaDoor.PRp Go.Proofs.YtadepdeckapgcaaDoor.Orc
set_option linter.unusedVariables false
set_option linter.unusedSimpArgs false
theorem C_len {α : Type} {d : Kd α} {w : World} {A : Option Addr} {n : Nat} {xs : List α} (h : Kd.C d w A n xs) : xs.length = n ∧ n ≤ Rc.MX := ⟨h.1, h.2.1⟩
theorem C_each {α : Type} {d : Kd α} {w : World} {A : Option Addr} {n : Nat} {xs : List α} (h : Kd.C d w A n xs) (x : α) (hx : x ∈ xs) : ∃ c, d.K w x c := by
  obtain ⟨j, hj, rfl⟩ := List.getElem_of_mem hx
  obtain ⟨ad, _, hc⟩ := h.2.2 (by have := h.1; omega)
  obtain ⟨c, _, hK, _⟩ := hc j _ (List.getElem?_eq_getElem hj)
  exact ⟨c, hK⟩
theorem bw_of {w : World} {A : Option Addr} {n : Nat} {xs : List S96} (h : Kd.C k96 w A n xs) : Rc.Bw xs := by
  refine ⟨by have := C_len h; omega, fun m hm => ?_⟩
  obtain ⟨c, hK⟩ := C_each h m hm
  obtain ⟨A1, c1, _, _, hC⟩ := k96_open hK
  exact (C_len hC).2
theorem bws_of {w : World} {A : Option Addr} {n : Nat} {xs : List (List S96)} (h : Kd.C (Kd.slice 96 k96) w A n xs) : Rc.Bws xs := by
  refine ⟨by have := C_len h; omega, fun m hm => ?_⟩
  obtain ⟨c, A1, c1, _, _, hC⟩ := C_each h m hm
  exact bw_of hC
theorem bns_of {w : World} {A : Option Addr} {n : Nat} {xs : List S92} (h : Kd.C k92 w A n xs) : Rc.Bns xs := by
  refine ⟨by have := C_len h; omega, fun m hm => ?_⟩
  obtain ⟨c, hK⟩ := C_each h m hm
  obtain ⟨A1, c1, _, _, hC⟩ := k92_open hK
  exact bws_of hC
theorem rdCheck (w : World) (T : Int) (A1 : Option Addr) (c1 : Nat) (d : List Int) (A2 : Option Addr) (c2 : Nat) (n : List S92) (h1 : Kd.C (Kd.int .i64) w A1 d.length d) (h2 : d.length ≤ c1) (h3 : Kd.C k92 w A2 n.length n) (h4 : n.length ≤ c2) :
    Calls Tryd.prog 40 #[.agg #[.int .i64 T, .slice A1 d.length c1, .slice A2 n.length c2]] w fun e w' => e = .returned (.int .i64 (Rc.chkR T d n)) ∧ Below w.heap.size w w' := by
  obtain ⟨k, hk⟩ := (Rc.ev_chk T d h1.2.1 n (bns_of h3)).rounds
  exact report_Check.calls k T A1 c1 d A2 c2 n _ w h1 h2 h3 h4 hk
set_option maxRecDepth 100000 in
set_option maxHeartbeats 4000000 in
theorem wTextBad (T : Int) (A1 : Option Addr) (c1 : Nat) (d : List Int) (A2 : Option Addr) (c2 : Nat) (n : List S92) (w : World) (h1 : Kd.C (Kd.int .i64) w A1 d.length d) (h2 : d.length ≤ c1) (h3 : Kd.C k92 w A2 n.length n) (h4 : n.length ≤ c2) (hne : Rc.chkR T d n ≠ 0) :
    Calls Tryd.prog 39 #[.agg #[.int .i64 T, .slice A1 d.length c1, .slice A2 n.length c2]] w fun e w' => e = .returned (.tuple #[.string ⟨#[]⟩, .int .i64 (Rc.chkR T d n)]) ∧ Below w.heap.size w w' := by
  have HC := Lib.hid (fun (w1 : World) (hb : Below w.heap.size w w1) => rdCheck w1 T A1 c1 d A2 c2 n (Kd.C_below h1 hb) h2 (Kd.C_below h3 hb) h4)
  generalize Rc.chkR T d n = e at *
  have he1 : (e == 0) = false := beq_eq_false_iff_ne.2 hne
  have he2 : (e != 0) = true := bne_iff_ne.2 hne
  have hb0 : Hid (∀ o, Below w.heap.size w (w.alloc o)) := Lib.hid (fun o => (Below.refl _ _).alloc (Nat.le_refl _) _)
  clear h1 h3 hne
  go_enter Tryd.func39, Tryd.ntmps39
  go_wp2_with (go_at_call 40; refine (HC.out _ (hb0.out _)).mono ?_; rintro e w1 ⟨rfl, hb1⟩)
  go_ret2
  exact ⟨rfl, (hb0.out _).trans (hb1.mono (by simp))⟩
def TxRel (w1 : World) (T : Int) (d : List Int) (n : List S92) (j : Nat) (L : List UInt8) (wr : World) : Prop :=
  L ++ (bodyL (d.drop j) (n.drop j) ++ [101, 110, 100, 10]) = textL T d n ∧ IsB w1.heap.size w1.heap.size L wr ∧ Below w1.heap.size w1 wr
def TyRel (w1 : World) (T : Int) (d : List Int) (n : List S92) (j : Nat) (ws : List (List S96)) (m : Nat) (L : List UInt8) (wr : World) : Prop :=
  L ++ (waysL (ws.drop m) ++ (bodyL (d.drop (j + 1)) (n.drop (j + 1)) ++ [101, 110, 100, 10])) = textL T d n ∧ IsB w1.heap.size w1.heap.size L wr ∧ Below w1.heap.size w1 wr
set_option maxRecDepth 100000 in
set_option maxHeartbeats 4000000 in
theorem wTextGood (T : Int) (A1 : Option Addr) (c1 : Nat) (d : List Int) (A2 : Option Addr) (c2 : Nat) (n : List S92) (w : World) (h1 : Kd.C (Kd.int .i64) w A1 d.length d) (h2 : d.length ≤ c1) (h3 : Kd.C k92 w A2 n.length n) (h4 : n.length ≤ c2) (h0 : Rc.chkR T d n = 0) (hG : Gl w) :
    Calls Tryd.prog 39 #[.agg #[.int .i64 T, .slice A1 d.length c1, .slice A2 n.length c2]] w fun e w' => e = .returned (.tuple #[.string ⟨(textL T d n).toArray⟩, .int .i64 0]) ∧ Below w.heap.size w w' := by
  have HC := Lib.hid (fun (w1 : World) (hb : Below w.heap.size w w1) => rdCheck w1 T A1 c1 d A2 c2 n (Kd.C_below h1 hb) h2 (Kd.C_below h3 hb) h4)
  have HOK := Lib.hid (chkR_ok h0)
  rw [h0] at HC
  have hb0 : Hid (∀ o, Below w.heap.size w (w.alloc o)) := Lib.hid (fun o => (Below.refl _ _).alloc (Nat.le_refl _) _)
  have HX0 : Hid (Blk (w.alloc (.cells #[.int .i64 T, .slice A1 d.length c1, .slice A2 n.length c2] 25)) w.heap.size #[.int .i64 T, .slice A1 d.length c1, .slice A2 n.length c2] 25) := Lib.hid (Blk.new _ _ _)
  have H1 := Lib.hid h1; have H3 := Lib.hid h3; have HG := Lib.hid hG
  clear h1 h3 h0 hG
  go_enter Tryd.func39, Tryd.ntmps39
  go_wp2_with fail
  refine (HC.out _ (hb0.out _)).mono ?_
  rintro e w1 ⟨rfl, hb1⟩
  have HX : Hid (Blk w1 w.heap.size #[.int .i64 T, .slice A1 d.length c1, .slice A2 n.length c2] 25) := Lib.hid ((hb1.block _ HX0.out.lt).trans HX0.out)
  have HB := Lib.hid ((hb0.out (.cells #[.int .i64 T, .slice A1 d.length c1, .slice A2 n.length c2] 25)).trans (hb1.mono (by simp)))
  clear hb1 HC HX0 hb0
  have hIB := Lib.hid (IsB.fresh w1)
  have hB1 : Hid (∀ o, Below w1.heap.size w1 (w1.alloc o)) := Lib.hid (fun o => (Below.refl _ _).alloc (Nat.le_refl _) _)
  have hxl := HX.out.lt
  have x0 := HX.out.cell 0; have x1 := HX.out.cell 1; have x2 := HX.out.cell 2
  simp at x0 x1 x2
  have hT : in64 T := by have := HOK.out.t0; have := HOK.out.t1; unfold in64; omega
  have hTs := itB_size T hT
  have s1 : 7 + (itB T).size ≤ 9223372036854775807 := by omega
  have s2 : 7 + (itB T).size + 1 ≤ 9223372036854775807 := by omega
  have HG1 := Lib.hid (fun o => HG.out.below (HB.out.trans ((hB1.out o).mono HB.out.size)))
  have HSZ : Hid (((sReport ++ itB T) ++ sNl).size = 7 + (itB T).size + 1) := Lib.hid (by rw [ByteArray.size_append, ByteArray.size_append]; rfl)
  go_wp2_with (first | (go_at_call 82; refine (o_Itoa.calls T (itB T) _ (itoa_some T hT) (HG1.out _)).mono ?_; rintro e w2 ⟨rfl, hb2⟩; have HB2 := Lib.hid hb2; clear hb2) | (have hqa := HB2; go_at_call 81; refine (bWrite w1.heap.size w1.heap.size [] ((sReport ++ itB T) ++ sNl) _ (hIB.out.below HB2.out) ?cb ?cc).mono ?_; (case cb => rw [HSZ.out]; simp; omega); (case cc => exact Nat.le_trans (by simp) HB2.out.size); rintro e w3 ⟨rfl, hi3, hb3⟩; have HI3 := Lib.hid hi3; have HB3 : Hid (Below w1.heap.size w1 w3) := Lib.hid (((hB1.out _).trans (HB2.out.mono (by simp))).trans hb3); have HX3 : Hid (Blk w3 w.heap.size #[.int .i64 T, .slice A1 d.length c1, .slice A2 n.length c2] 25) := Lib.hid ((HB3.out.block _ hxl).trans HX.out); have x1 := HX3.out.cell 1; simp at x1; clear hi3 hb3 hqa))
  clear x0 x1 x2
  have hdl := HOK.out.dl
  have HNL := Lib.hid HOK.out.len
  go_loopw [24] (fun i wr => ∃ (j : Nat) (L : List UInt8), j ≤ d.length ∧ i = .int .i64 j ∧ Hid (TxRel w1 T d n j L wr)) (fun i _ => d.length - (intOf i).toNat)
  case atStart => exact ⟨0, _, Nat.zero_le _, rfl, Lib.hid ⟨by unfold textL; simp, HI3.out, HB3.out⟩⟩
  case round =>
    obtain ⟨j, L, hj, rfl, HT⟩ := hrel
    obtain ⟨hT1, hI, hBw⟩ := HT.out
    have HIr := Lib.hid hI; have HBr := Lib.hid hBw
    by_cases hlt : j < d.length
    · have hlt2 : j < n.length := by have := HNL.out; omega
      obtain ⟨ad, eA, hx0⟩ := Kd.at_int H1.out (j : Int) (by omega) (by omega)
      obtain ⟨ad2, A3, c3, eA2, _, hx1, hc3, hC3⟩ := at_T92 H3.out (j : Int) (by omega) (by omega)
      cases eA; cases eA2
      have hrd : rd d (j : Int) = d[j] := by unfold rd; simp [hlt]
      have hrn : rd_T92 n (j : Int) = n[j] := by unfold rd_T92; simp [hlt2]
      rw [hrd] at hx0; rw [hrn] at hx1 hc3 hC3
      simp only [Int.toNat_natCast] at hx0 hx1
      have hdt := HOK.out.d _ (List.getElem_mem hlt)
      have hnx := HOK.out.n _ (List.getElem_mem hlt2)
      rw [List.drop_eq_getElem_cons hlt, List.drop_eq_getElem_cons hlt2] at hT1
      simp only [bodyL] at hT1
      generalize d[j] = t at hx0 hdt hT1
      generalize n[j] = x at hx1 hc3 hC3 hnx hT1
      have hCC := Lib.hid (fun (w' : World) (hb : Below w1.heap.size w1 w') => (Kd.C_below (Kd.C_below hC3 HB.out) hb))
      have lt0 := World.block_lt_of_cell? w _ hx0
      have lt1 := World.block_lt_of_cell? w _ hx1
      have hy1 := (HB.out.cell lt1).trans hx1
      replace hx0 := (hBw.cell (Nat.lt_of_lt_of_le lt0 HB.out.size)).trans ((HB.out.cell lt0).trans hx0)
      have t64 : in64 t := by unfold in64; omega
      have htz := itB_size t t64
      have s3 : 7 + (itB t).size ≤ 9223372036854775807 := by omega
      have s4 : 7 + (itB t).size + 1 ≤ 9223372036854775807 := by omega
      have HGr := Lib.hid (HG.out.below (HB.out.trans (hBw.mono HB.out.size)))
      have HSZ2 : Hid (((sThread ++ itB t) ++ sNl).size = 7 + (itB t).size + 1) := Lib.hid (by rw [ByteArray.size_append, ByteArray.size_append]; rfl)
      have hlen := textL_len HOK.out
      rw [← hT1] at hlen
      simp only [List.length_append] at hlen
      have hw1 : L.length + (7 + (itB t).size + 1) ≤ 140737488355328 := by rw [show ((sThread ++ itB t) ++ sNl).data.toList.length = 7 + (itB t).size + 1 by rw [← Lib.size_eq]; exact HSZ2.out] at hlen; omega
      have lt2 := Nat.lt_of_lt_of_le lt1 HB.out.size
      have HTx : Hid ((L ++ ((sThread ++ itB t) ++ sNl).data.toList) ++ (waysL x.f1 ++ (bodyL (d.drop (j + 1)) (n.drop (j + 1)) ++ [101, 110, 100, 10])) = textL T d n) := Lib.hid (by rw [← hT1]; simp)
      have HNX := Lib.hid hnx
      clear hrd hrn hT1 hI hBw hC3 hx1 hlen lt0 lt1 hdt hnx
      go_wp2_with (first | (go_at_call 82; refine (o_Itoa.calls t (itB t) _ (itoa_some t t64) HGr.out).mono ?_; rintro e w4 ⟨rfl, hb4⟩; have HB4 := Lib.hid hb4; clear hb4) | (have hqa := HB4; go_at_call 81; refine (bWrite w1.heap.size w1.heap.size L ((sThread ++ itB t) ++ sNl) _ (HIr.out.below HB4.out) ?cb ?cc).mono ?_; (case cb => rw [HSZ2.out]; exact hw1); (case cc => exact Nat.le_trans HBr.out.size HB4.out.size); rintro e w5 ⟨rfl, hi5, hb5⟩; have HI5 := Lib.hid hi5; have HB5 : Hid (Below w1.heap.size w1 w5) := Lib.hid ((HBr.out.trans (HB4.out.mono HBr.out.size)).trans hb5); have HX5 : Hid (Blk w5 w.heap.size #[.int .i64 T, .slice (some ad) d.length c1, .slice (some ad2) n.length c2] 25) := Lib.hid ((HB5.out.block _ hxl).trans HX.out); have y2 := HX5.out.cell 2; simp at y2; have y3 := (HB5.out.cell (p := ⟨(ad2.add (j * 2)).block, (ad2.add (j * 2)).off + 1, none⟩) lt2).trans hy1; clear hi5 hb5 hqa))
      have HTy0 : Hid (TyRel w1 T d n j x.f1 0 (L ++ ((sThread ++ itB t) ++ sNl).data.toList) w5) := Lib.hid ⟨by rw [List.drop_zero]; exact HTx.out, HI5.out, HB5.out⟩
      clear HTx HI5 HB5 HX5 y2 y3 HB4 HIr HBr HGr HSZ2 s3 s4 hw1 hx0 hy1 htz t64
      go_loopw [41] (fun i wi => ∃ (m : Nat) (L : List UInt8), m ≤ x.f1.length ∧ i = .int .i64 m ∧ Hid (TyRel w1 T d n j x.f1 m L wi)) (fun i _ => x.f1.length - (intOf i).toNat)
      case atStart => exact ⟨0, _, Nat.zero_le _, rfl, HTy0⟩
      case round =>
        obtain ⟨m, L2, hm, rfl, HT2⟩ := hrel
        obtain ⟨hT2, hI2, hB2⟩ := HT2.out
        have HI2 := Lib.hid hI2; have HBi := Lib.hid hB2
        have hf4 := HNX.out.2.1
        by_cases hlm : m < x.f1.length
        · obtain ⟨ad4, A4, c4, eA4, hz0, hc4, hC4⟩ := at_L7 (hCC.out _ hB2) (m : Int) (by omega) (by omega)
          cases eA4
          have hr4 : rd_L7 x.f1 (m : Int) = x.f1[m] := by unfold rd_L7; simp [hlm]
          rw [hr4] at hz0 hc4 hC4
          simp only [Int.toNat_natCast] at hz0
          rw [List.drop_eq_getElem_cons hlm] at hT2
          simp only [waysL] at hT2
          have hwok := (HNX.out.2.2 _ (List.getElem_mem hlm)).in_
          generalize x.f1[m] = wy at hz0 hc4 hC4 hT2 hwok
          obtain ⟨kk, hkk⟩ := (way_ev wy hwok).rounds
          have HKK := Lib.hid hkk; have HC4 := Lib.hid hC4
          have hlen := textL_len HOK.out
          rw [← hT2] at hlen
          simp only [List.length_append] at hlen
          have hw2 : L2.length + (wayP wy).size ≤ 140737488355328 := by rw [Lib.size_eq]; omega
          have HGi := Lib.hid (HG.out.below (HB.out.trans (hB2.mono HB.out.size)))
          have HTz : Hid ((L2 ++ (wayP wy).data.toList) ++ (waysL (x.f1.drop (m + 1)) ++ (bodyL (d.drop (j + 1)) (n.drop (j + 1)) ++ [101, 110, 100, 10])) = textL T d n) := Lib.hid (by rw [← hT2]; simp)
          clear hr4 hT2 hI2 hB2 hC4 hlen hkk hwok HT2
          go_wp2_with (first | (go_at_call 83; refine (report_way.calls kk A4 c4 wy (wayP wy) _ HC4.out hc4 HKK.out HGi.out).mono ?_; rintro e w6 ⟨rfl, hb6⟩; have HB6 := Lib.hid hb6; clear hb6) | (have hqb := HB6; go_at_call 81; refine (bWrite w1.heap.size w1.heap.size L2 (wayP wy) _ (HI2.out.below HB6.out) ?cb ?cc).mono ?_; (case cb => exact hw2); (case cc => exact Nat.le_trans HBi.out.size HB6.out.size); rintro e w7 ⟨rfl, hi7, hb7⟩; have HI7 := Lib.hid hi7; have HB7 : Hid (Below w1.heap.size w1 w7) := Lib.hid ((HBi.out.trans (HB6.out.mono HBi.out.size)).trans hb7); clear hi7 hb7 hqb))
          go_roundw
          case rel => exact ⟨m + 1, L2 ++ (wayP wy).data.toList, by omega, by go_num, Lib.hid ⟨HTz.out, HI7.out, HB7.out⟩⟩
          case measure => simp [intOf]; omega
        · rw [List.drop_of_length_le (by omega)] at hT2
          have HTz : Hid (L2 ++ (bodyL (d.drop (j + 1)) (n.drop (j + 1)) ++ [101, 110, 100, 10]) = textL T d n) := Lib.hid (by rw [← hT2]; simp [waysL])
          clear hT2 hI2 hB2 HT2
          go_wp2
          go_roundw
          case rel => exact ⟨j + 1, L2, by omega, by go_num, Lib.hid ⟨HTz.out, HI2.out, HBi.out⟩⟩
          case measure => simp [intOf]; omega
    · have e : d.drop j = [] := List.drop_of_length_le (by omega)
      rw [e] at hT1
      have HTx : Hid (L ++ [101, 110, 100, 10] = textL T d n) := Lib.hid (by simpa [bodyL] using hT1)
      have hlen := textL_len HOK.out
      have hLl : L.length + 4 ≤ 17000000000 := by rw [← HTx.out] at hlen; simpa using hlen
      clear hT1 hI hBw e hlen
      go_wp2_with (first | (go_at_call 81; refine (bWrite w1.heap.size w1.heap.size L (⟨#[101, 110, 100, 10]⟩ : ByteArray) _ HIr.out ?cb ?cc).mono ?_; (case cb => show L.length + 4 ≤ _; omega); (case cc => exact HBr.out.size); rintro e w4 ⟨rfl, hi4, hb4⟩; have HI4 := Lib.hid hi4; have HB4 := Lib.hid hb4; clear hi4 hb4) | (have hqa := HI4; go_at_call 84; refine (bString w1.heap.size w1.heap.size _ _ HI4.out ?cc).mono ?_; (case cc => exact Nat.le_trans HBr.out.size HB4.out.size); rintro e w5 ⟨rfl, hb5⟩; have HB5 := Lib.hid hb5; clear hb5 hqa))
      go_ret2
      have e2 : L ++ (⟨#[101, 110, 100, 10]⟩ : ByteArray).data.toList = textL T d n := HTx.out
      rw [e2]
      exact ⟨rfl, HB.out.trans (((HBr.out.trans HB4.out).trans HB5.out).mono HB.out.size)⟩
end Go.Proofs.YtadepdeckapgcaaDoor.Rp
namespace Go.Proofs.YtadepdeckapgcaaDoor.Orc
open Go.RowKit Go.Proofs.YtadepdeckapgcaaDoorW.PrintWords Go.Proofs.YtadepdeckapgcaaDoorW.PrintLast Go.Proofs.YtadepdeckapgcaaDoorW.PrintMore Go.Proofs.YtadepdeckapgcaaDoor.PRp Go.Proofs.YtadepdeckapgcaaDoor.Rp
def o_RText.f (T : Int) (d : List Int) (n : List S92) : Option (ByteArray × Int) := if Rc.chkR T d n = 0 then some (⟨(textL T d n).toArray⟩, 0) else some (⟨#[]⟩, Rc.chkR T d n)
theorem o_RText.calls (T : Int) (A1 : Option Addr) (c1 : Nat) (d : List Int) (A2 : Option Addr) (c2 : Nat) (n : List S92) (r1 : ByteArray) (r2 : Int) (w : World) (h1 : Kd.C (Kd.int .i64) w A1 d.length d) (h2 : d.length ≤ c1) (h3 : Kd.C k92 w A2 n.length n) (h4 : n.length ≤ c2) (h : o_RText.f T d n = some (r1, r2)) (hG : Gl w) :
    Calls Tryd.prog 39 #[.agg #[.int .i64 T, .slice A1 d.length c1, .slice A2 n.length c2]] w fun e w' => e = .returned (.tuple #[.string r1, .int .i64 r2]) ∧ Below w.heap.size w w' := by
  unfold o_RText.f at h
  split at h
  · rename_i h0
    injection h with h; injection h with e1 e2
    subst e1; subst e2
    exact wTextGood T A1 c1 d A2 c2 n w h1 h2 h3 h4 h0 hG
  · rename_i h0
    injection h with h; injection h with e1 e2
    subst e1; subst e2
    exact wTextBad T A1 c1 d A2 c2 n w h1 h2 h3 h4 h0
end Go.Proofs.YtadepdeckapgcaaDoor.Orc
end

section
namespace Go.Proofs.YtadepdeckapgcaaDoor.Rp
open Go.RowKit Go.Proofs.YtadepdeckapgcaaDoor Go.Proofs.YtadepdeckapgcaaDoor.Rg Go.Proofs.YtadepdeckapgcaaDoorW.PrintWords Go.Proofs.YtadepdeckapgcaaDoorW.PrintLast Go.Proofs.YtadepdeckapgcaaDoorW.PrintMore Go.Proofs.YtadepdeckapgcaaDoor.PRp Go.Proofs.YtadepdeckapgcaaDoor.Orc
set_option linter.unusedVariables false
set_option linter.unusedSimpArgs false
abbrev NNode := S92
abbrev NTerm := S96
abbrev kWay : Kd (List NTerm) := Kd.slice 96 k96
theorem rdAlt (s : ByteArray) (hs : s.size ≤ 1000000) (w : World) (hG : Gl w) : Calls Tryd.prog 128 #[.string s] w fun e w' => ∃ v, e = .returned (.tuple #[v, .bool (altP s).2]) ∧ k96.R 96 w' w.heap.size AnyB v (altP s).1 ∧ Quiet w w' := by
  obtain ⟨k, hk⟩ := (alt_ev s hs).rounds
  exact (report_alt.calls k s (altP s).1 (altP s).2 w hk hG).mono fun e w' ⟨v, he, hr, hb⟩ => ⟨v, he, Kd.S_R hr, Quiet.of hb⟩
theorem rdCP (a b : ByteArray) (w : World) : Calls Tryd.prog 126 #[.string a, .string b] w fun e w' => e = .returned (.tuple #[.string (cpP a b).1, .bool (cpP a b).2]) ∧ w' = w := Tryd.strings_CutPrefix a b w
theorem rdNum (a : ByteArray) (hs : a.size ≤ 1000000) (w : World) (hG : Gl w) : Calls Tryd.prog 127 #[.string a] w fun e w' => e = .returned (.tuple #[.int .i64 (rnumP a).1, .bool (rnumP a).2]) ∧ Quiet w w' :=
  (o_rnumber.calls a (rnumP a).1 (rnumP a).2 w (rnum_some a hs) hG).mono fun e w' ⟨he, hb⟩ => ⟨he, Quiet.of hb⟩
structure RdAt (w : World) (R Y : Nat) (T : Int) (vd vn : Value) (dd : List Int) (nn : List NNode) (wr : World) : Prop where
  r : Blk wr R #[.int .i64 0, .slice none 0 0, .slice none 0 0] 25
  y : Blk wr Y #[.int .i64 T, vd, vn] 25
  od : (Kd.int .i64).R 3 wr w.heap.size AnyB vd dd
  on : Kd.S k92 92 wr w.heap.size AnyB vn nn
  b : Below w.heap.size w wr
section
variable {w : World} {R Y : Nat} {T : Int} {vd vn : Value} {dd : List Int} {nn : List NNode} {wr wz : World}
theorem RdAt.quiet (h : RdAt w R Y T vd vn dd nn wr) (q : Quiet wr wz) : RdAt w R Y T vd vn dd nn wz :=
  ⟨q.blk h.r (fun x => x), q.blk h.y (fun x => x), Kd.R_below h.od (Quiet.bel q), Kd.S_below h.on (Quiet.bel q), below_then h.b h.b.size (Quiet.bel q)⟩
theorem RdAt.setT {T' : Int} (h : RdAt w R Y T vd vn dd nn wr) (hRY : R ≠ Y) (hY : w.heap.size ≤ Y) : RdAt w R Y T' vd vn dd nn (wr.setCell ⟨Y, 0, none⟩ (.int .i64 T')) :=
  ⟨h.r.set_other (by show Y ≠ _; omega) _, by simpa using h.y.set 0 (.int .i64 T'), Kd.R_set h.od h.y (by decide) 0 _, Kd.S_set h.on h.y (by decide) 0 _, h.b.setCell (by show w.heap.size ≤ Y; omega) _⟩
end
structure RdMid (w : World) (R Y : Nat) (T : Int) (vd vn v1 : Value) (de : List Int) (nn : List NNode) (wr : World) : Prop where
  r : Blk wr R #[.int .i64 0, .slice none 0 0, .slice none 0 0] 25
  y : Blk wr Y #[.int .i64 T, vd, vn] 25
  od : (Kd.int .i64).R 3 wr w.heap.size AnyB v1 de
  on : Kd.S k92 92 wr w.heap.size AnyB vn nn
  b : Below w.heap.size w wr
section
variable {w : World} {R Y : Nat} {T : Int} {vd vn v1 v2 : Value} {dd de : List Int} {nn ne : List NNode} {wr wz : World}
theorem RdMid.quiet (h : RdMid w R Y T vd vn v1 de nn wr) (q : Quiet wr wz) : RdMid w R Y T vd vn v1 de nn wz :=
  ⟨q.blk h.r (fun x => x), q.blk h.y (fun x => x), Kd.R_below h.od (Quiet.bel q), Kd.S_below h.on (Quiet.bel q), below_then h.b h.b.size (Quiet.bel q)⟩
theorem RdAt.growD (h : RdAt w R Y T vd vn dd nn wr) (hg : wr.grownBy wz vd.ownBlock) (ho : (Kd.int .i64).R 3 wz w.heap.size AnyB v1 de) : RdMid w R Y T vd vn v1 de nn wz := by
  obtain ⟨inner, own⟩ := Kd.R_own h.od
  exact ⟨grown_blk hg h.r (own_not_blk h.r own (by decide)), grown_blk hg h.y (own_not_blk h.y own (by decide)), ho, Kd.S_over' h.on (Kd.R_typed h.od) (by decide) hg, h.b.grown hg h.b.size (fun k hk => own_base own k hk)⟩
theorem RdMid.growN (h : RdMid w R Y T vd vn v1 de nn wr) (hRY : R ≠ Y) (hY : w.heap.size ≤ Y) (hg : wr.grownBy wz vn.ownBlock) (ho : Kd.S k92 92 wz w.heap.size AnyB v2 ne) :
    RdAt w R Y T v1 v2 de ne ((wz.setCell ⟨Y, 1, none⟩ v1).setCell ⟨Y, 2, none⟩ v2) := by
  obtain ⟨inner, own⟩ := Kd.S_own h.on
  have y2 := grown_blk hg h.y (own_not_blk h.y own (by decide))
  have y3 := y2.set 1 v1
  have o2 := Kd.R_over' h.od (Kd.S_typed h.on) (by decide) hg
  refine ⟨((grown_blk hg h.r (own_not_blk h.r own (by decide))).set_other (by show Y ≠ _; omega) _).set_other (by show Y ≠ _; omega) _, by simpa using y3.set 2 v2, Kd.R_set (Kd.R_set o2 y2 (by decide) 1 v1) y3 (by decide) 2 v2, Kd.S_set (Kd.S_set ho y2 (by decide) 1 v1) y3 (by decide) 2 v2, ?_⟩
  exact ((h.b.grown hg h.b.size (fun k hk => own_base own k hk)).setCell (by show w.heap.size ≤ Y; omega) _).setCell (by show w.heap.size ≤ Y; omega) _
theorem RdAt.ret (h : RdAt w R Y T vd vn dd nn wr) (hRY : R ≠ Y) (hR : w.heap.size ≤ R) :
    Blk (((wr.setCell ⟨R, 0, none⟩ (.int .i64 T)).setCell ⟨R, 1, none⟩ vd).setCell ⟨R, 2, none⟩ vn) R #[.int .i64 T, vd, vn] 25 ∧
      (Kd.int .i64).R 3 (((wr.setCell ⟨R, 0, none⟩ (.int .i64 T)).setCell ⟨R, 1, none⟩ vd).setCell ⟨R, 2, none⟩ vn) w.heap.size AnyB vd dd ∧
      k92.R 92 (((wr.setCell ⟨R, 0, none⟩ (.int .i64 T)).setCell ⟨R, 1, none⟩ vd).setCell ⟨R, 2, none⟩ vn) w.heap.size AnyB vn nn ∧
      Below w.heap.size w (((wr.setCell ⟨R, 0, none⟩ (.int .i64 T)).setCell ⟨R, 1, none⟩ vd).setCell ⟨R, 2, none⟩ vn) := by
  have r1 := h.r.set 0 (.int .i64 T)
  have r2 := r1.set 1 vd
  have r3 := r2.set 2 vn
  refine ⟨by simpa using r3, ?_, ?_, ?_⟩
  · exact Kd.R_set (Kd.R_set (Kd.R_set h.od h.r (by decide) 0 _) r1 (by decide) 1 _) r2 (by decide) 2 _
  · exact Kd.S_R (Kd.S_set (Kd.S_set (Kd.S_set h.on h.r (by decide) 0 _) r1 (by decide) 1 _) r2 (by decide) 2 _)
  · exact ((h.b.setCell (by show w.heap.size ≤ R; exact hR) _).setCell (by show w.heap.size ≤ R; exact hR) _).setCell (by show w.heap.size ≤ R; exact hR) _
theorem RdAt.inner (h : RdAt w R Y T vd vn dd nn wr) {va : Value} {wa : World} {size n base : Nat} {xs : List Value} (own : wr.ownsRow base 93 size va n xs) (hb : w.heap.size ≤ base) (hg : wr.grownBy wa va.ownBlock) {g : Nat} (hvn : vn.ownBlock = some g)
    (hg2 : wa.grownBy wz (some g)) (hon : Kd.S k92 92 wz w.heap.size AnyB vn ne) : RdAt w R Y T vd vn dd ne wz := by
  obtain ⟨inner, ownN⟩ := Kd.S_own h.on
  have ty : ∀ k, va.ownBlock = some k → ∃ cells, wr.heap[k]? = some (.cells cells 93 (0, 0)) := fun k hk => own_typed own k hk
  have r1 := grown_blk hg h.r (own_not_blk h.r own (by decide)); have y1 := grown_blk hg h.y (own_not_blk h.y own (by decide))
  have d1 := Kd.R_over' h.od ty (by decide) hg
  have b1 := h.b.grown hg h.b.size (fun k hk => Nat.le_trans hb (own_base own k hk))
  have hgt : ∃ cells, wa.heap[g]? = some (.cells cells 92 (0, 0)) := by
    obtain ⟨cells, hc⟩ := own_typed ownN g hvn
    have hne : some g ≠ va.ownBlock := fun e => by
      obtain ⟨c2, h2⟩ := ty g e.symm
      rw [hc] at h2
      injection h2 with h2; injection h2 with _ h2
      exact absurd h2 (by decide)
    exact ⟨cells, (hg.block g (own_lt ownN g hvn) hne).trans hc⟩
  obtain ⟨cells, hc⟩ := hgt
  have nb : ∀ {b : Nat} {cs : Array Value}, Blk wa b cs 25 → some b ≠ some g := by
    intro b cs hb' e
    injection e with e; subst e
    rw [Blk, hc] at hb'
    injection hb' with hb'; injection hb' with _ hb'
    exact absurd hb' (by decide)
  refine ⟨grown_blk hg2 r1 (nb r1), grown_blk hg2 y1 (nb y1), ?_, hon, ?_⟩
  · exact Kd.R_over' (v := vn) d1 (fun k hk => by rw [hvn] at hk; injection hk with hk; subst hk; exact ⟨cells, hc⟩) (by decide) (by rw [hvn]; exact hg2)
  · exact b1.grown hg2 b1.size (fun k hk => by injection hk with hk; subst hk; exact own_base ownN _ hvn)
end
end Go.Proofs.YtadepdeckapgcaaDoor.Rp
end
