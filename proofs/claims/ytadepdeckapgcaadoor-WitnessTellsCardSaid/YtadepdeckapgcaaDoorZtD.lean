/- LawWitnessTells, part 4: what the proof stands on (merged by wip/shake.py out of the session's texts and of what the print wrote for this claim). -/
import Derived.Test.YtadepdeckapgcaaDoorZtC

section
namespace Go.Proofs.YtadepdeckapgcaaDoor.PWitnessTells
open Go.RowKit Go.Proofs.YtadepdeckapgcaaDoorW.PrintWords Go.Proofs.YtadepdeckapgcaaDoorW.PrintLast Go.Proofs.YtadepdeckapgcaaDoorW.PrintMore
attribute [local go_sem] max2_int min2_int max_two min_two max_three min_three max_four min_four
set_option linter.unusedVariables false
set_option linter.unusedSimpArgs false
mutual
def logjamlaw26_Own.l0 : Nat → List (S92) → List (S92) → Int → Option ((List (S92)))
 | 0, _, _, _ => none
 | k + 1, x0, x3, x4 => if x4 < (x0.length : Int) then (logjamlaw26_Own.j1 k x0 x3 x4 (decide (x4 < 70))) else (logjamlaw26_Own.j1 k x0 x3 x4 false)
def logjamlaw26_Own.j1 : Nat → List (S92) → List (S92) → Int → Bool → Option ((List (S92)))
 | 0, _, _, _, _ => none
 | k + 1, x0, x3, x4, x19 => if x19 = true then (if 0 ≤ x4 then (if x4 < (x0.length : Int) then (logjamlaw26_Own.l1 k x0 x3 x4 0 ((rd_T92 x0 x4).f0) ([] : List (List (S96)))) else (none)) else (none)) else (some x3)
def logjamlaw26_Own.l1 : Nat → List (S92) → List (S92) → Int → Int → Bool → List (List (S96)) → Option ((List (S92)))
 | 0, _, _, _, _, _, _ => none
 | k + 1, x0, x3, x4, x6, x106000, x106001 => if 0 ≤ x4 then (if x4 < (x0.length : Int) then (if x6 < (((rd_T92 x0 x4).f1).length : Int) then (logjamlaw26_Own.j3 k x0 x3 x4 x6 (decide (x6 < 6)) x106000 x106001) else (logjamlaw26_Own.j3 k x0 x3 x4 x6 false x106000 x106001)) else (none)) else (none)
def logjamlaw26_Own.j3 : Nat → List (S92) → List (S92) → Int → Int → Bool → Bool → List (List (S96)) → Option ((List (S92)))
 | 0, _, _, _, _, _, _, _ => none
 | k + 1, x0, x3, x4, x6, x39, x106000, x106001 => if x39 = true then (logjamlaw26_Own.l2 k x0 x3 x4 x6 (([] : List (S96))) 0 x106000 x106001) else (if x3.length < 4398046511104 then (logjamlaw26_Own.l0 k x0 (x3 ++ [(⟨x106000, x106001⟩ : S92)]) (wrap64 (x4 + 1))) else (none))
def logjamlaw26_Own.l2 : Nat → List (S92) → List (S92) → Int → Int → List (S96) → Int → Bool → List (List (S96)) → Option ((List (S92)))
 | 0, _, _, _, _, _, _, _, _ => none
 | k + 1, x0, x3, x4, x6, x7, x8, x106000, x106001 => if 0 ≤ x4 then (if x4 < (x0.length : Int) then (if 0 ≤ x6 then (if x6 < (((rd_T92 x0 x4).f1).length : Int) then (if x8 < ((rd_L5 ((rd_T92 x0 x4).f1) x6).length : Int) then (logjamlaw26_Own.j5 k x0 x3 x4 x6 x7 x8 (decide (x8 < 6)) x106000 x106001) else (logjamlaw26_Own.j5 k x0 x3 x4 x6 x7 x8 false x106000 x106001)) else (none)) else (none)) else (none)) else (none)
def logjamlaw26_Own.j5 : Nat → List (S92) → List (S92) → Int → Int → List (S96) → Int → Bool → Bool → List (List (S96)) → Option ((List (S92)))
 | 0, _, _, _, _, _, _, _, _, _ => none
 | k + 1, x0, x3, x4, x6, x7, x8, x57, x106000, x106001 => if x57 = true then (if 0 ≤ x4 then (if x4 < (x0.length : Int) then (if 0 ≤ x6 then (if x6 < (((rd_T92 x0 x4).f1).length : Int) then (if 0 ≤ x8 then (if x8 < ((rd_L5 ((rd_T92 x0 x4).f1) x6).length : Int) then (if (((rd_T96 (rd_L5 ((rd_T92 x0 x4).f1) x6) x8).f1).length : Int) > 70 then (if 70 ≤ (((rd_T96 (rd_L5 ((rd_T92 x0 x4).f1) x6) x8).f1).length : Int) then ((some (((rd_T96 (rd_L5 ((rd_T92 x0 x4).f1) x6) x8).f1).take 70 : List (S108))).bind fun y119 => ((some (([] : List (S108)) : List (S108))).bind fun y123 => (if y123.length + y119.length < 8796093022208 then (if x7.length < 4398046511104 then (logjamlaw26_Own.l2 k x0 x3 x4 x6 (x7 ++ [(⟨(rd_T96 (rd_L5 ((rd_T92 x0 x4).f1) x6) x8).f0, (y123 ++ y119)⟩ : S96)]) (wrap64 (x8 + 1)) x106000 x106001) else (none)) else (none)))) else (none)) else ((some (([] : List (S108)) : List (S108))).bind fun y132 => (if y132.length + ((rd_T96 (rd_L5 ((rd_T92 x0 x4).f1) x6) x8).f1).length < 8796093022208 then (if x7.length < 4398046511104 then (logjamlaw26_Own.l2 k x0 x3 x4 x6 (x7 ++ [(⟨(rd_T96 (rd_L5 ((rd_T92 x0 x4).f1) x6) x8).f0, (y132 ++ ((rd_T96 (rd_L5 ((rd_T92 x0 x4).f1) x6) x8).f1))⟩ : S96)]) (wrap64 (x8 + 1)) x106000 x106001) else (none)) else (none)))) else (none)) else (none)) else (none)) else (none)) else (none)) else (none)) else (if x106001.length < 5864062014805 then (logjamlaw26_Own.l1 k x0 x3 x4 (wrap64 (x6 + 1)) x106000 (x106001 ++ [x7])) else (none))
end
def logjamlaw26_Own.f (k : Nat) (l0 : List (S92)) : Option ((List (S92))) := logjamlaw26_Own.l0 k l0 (([] : List (S92))) 0
def logjamlaw26_Own.T17 : Bool × List (List Nat × List Nat) := (true, [([], []), ([], []), ([1], [1]), ([], []), ([], []), ([3, 4], [3, 4]), ([2, 5], [2, 5]), ([6], [6]), ([0, 7, 5], [0, 7]), ([8, 8, 0, 1, 2, 3, 4, 5, 6, 7, 8], [0, 8])])
def logjamlaw26_Own.B17 : List Nat := [0, 0, 2, 0, 0, 24, 62, 126, 255, 511]
theorem logjamlaw26_Own.tab17 : rtab .any (opsOf Tryd.f14 17) = logjamlaw26_Own.T17 := by kernel_rfl
theorem logjamlaw26_Own.bits17 : waitsOk logjamlaw26_Own.T17.2 logjamlaw26_Own.B17 = true := by kernel_rfl
set_option maxHeartbeats 8000000 in
set_option maxRecDepth 100000 in
theorem logjamlaw26_Own.calls (k : Nat) (A0 : Option Addr) (c0 : Nat) (l0 : List (S92)) (r : List (S92)) (w : World) (hr0 : Kd.C k92 w A0 l0.length l0) (hc0 : l0.length ≤ c0) (h : logjamlaw26_Own.f k l0 = some r) :
  Calls Tryd.prog 14 #[.slice A0 l0.length c0] w fun e w' => ∃ v0_ : Value, e = .returned (v0_) ∧ Kd.R k92 92 w' w.heap.size (fun _ => True) v0_ r ∧ Below w.heap.size w w' := by
 have hu92 := Tryd.underlying92
 have hu96 := Tryd.underlying96
 have HR0 := Aside0.mk hr0
 have HC0 := Aside0.mk hc0
 clear hr0 hc0
 have HB := Aside0.mk (Below.refl w.heap.size w)
 have H : (logjamlaw26_Own.l0 k l0 (([] : List (S92))) 0) = some r := h
 clear h
 obtain ⟨y101, hy101⟩ : ∃ y_ : List (S92), y_ = (([] : List (S92))) := ⟨_, rfl⟩
 replace H : (logjamlaw26_Own.l0 k l0 y101 0) = some r := by first | (rw [hy101]; with_reducible exact H) | (have H2_ := (Option.bind_some _ _).symm.trans H; rw [hy101]; with_reducible exact H2_) | (have H2_ := (Option.bind_some _ _).symm.trans H; with_reducible exact H2_) | with_reducible exact H | (rw [hy101]; exact H) | exact H
 have Ny101 := Aside0.mk hy101
 clear hy101
 have H' := Aside0.mk H
 clear H
 go_enter Tryd.func14, Tryd.ntmps14
 go_wp2_with (first | ((with_reducible refine gate_dst (N := 11) rfl ?_); refine Kd.R_lit k92 _ 92 ?hg (N := 11) ?hd (xs := ([] : List (S92))) (inner := []) (ok := fun _ => True) (okp := fun _ => True) ?hr ?hp (fun _ hk => hk) trivial (Below.refl _ _) (Nat.le_refl _) (by simp) ?_; (case hd => rfl); (case hg => rfl); (case hr => first | (go_simp; done) | (go_simp; rfl)); (case hp => exact (Reps.none _ _)); intro v102 w2 ho3 hb hg_ hnew_; clear hg_ hnew_; (first | rw [← Ny101.out] at ho3 | (simp only [Int.reduceToNat] at ho3; rw [← Ny101.out] at ho3)); have n0_ := Aside0.mk (Kd.R_lower ho3 (below_size (by repeat (first | (with_reducible first | exact HB.out | apply below_alloc | apply pw_below_drewN | apply below_drew1) | exact HB.out)))); have n1_ := Aside0.mk (below_step (by repeat (first | (with_reducible first | exact HB.out | apply below_alloc | apply pw_below_drewN | apply below_drew1) | exact HB.out)) hb); clear HB; have HO103 := n0_; have HB := n1_; clear n0_ n1_; clear hb ho3))
 go_loopg [3, 4] k (fun kq v3 v4 w' => ∃ (x3_1 : List (S92)) (x4_1 : Int), v4 = .int .i64 x4_1 ∧ Aside0 (logjamlaw26_Own.l0 kq l0 x3_1 x4_1 = some r) ∧ Aside0 (kq ≤ k) ∧ Aside0 (Kd.R k92 92 w' w.heap.size (fun _ => True) v3 x3_1) ∧ Aside0 (Below w.heap.size w w'))
 case atStart => exact ⟨(y101), (0), (by first | rfl | (simp; done) | (simp [*]; done)), H', ⟨Nat.le_refl _⟩, ⟨by (with_reducible repeat (first | apply Kd.R_alloc | apply Kd.R_drewN | apply Kd.R_drew)); exact HO103.out⟩, ⟨by repeat (first | (with_reducible first | exact HB.out | apply below_alloc | apply pw_below_drewN | apply below_drew1) | exact HB.out)⟩⟩
 case round =>
  clear H'
  try clear c1
  try clear p2
  obtain ⟨x3_1, x4_1, rfl, HA, HK1, HO_3, HB⟩ := hrel
  cases gk with
  | zero => exact absurd HA.out (by simp [logjamlaw26_Own.l0])
  | succ k1 =>
   have H := HA.out
   clear HA
   simp only [logjamlaw26_Own.l0] at H
   have HC4 := Aside0.mk H
   clear H
   go_upto_region 3 with (fail)
   go_cut [19] (fun v19 wc => ∃ (kq : Nat) (x19_3 : Bool), v19 = .bool x19_3 ∧ Aside0 (logjamlaw26_Own.j1 kq l0 x3_1 x4_1 x19_3 = some r) ∧ Aside0 (kq ≤ k1) ∧ Aside0 (Kd.R k92 92 wc w.heap.size (fun _ => True) u3 x3_1) ∧ Aside0 (Below w.heap.size w wc))
   case first =>
    have H := HC4.out
    clear HC4
    by_cases c5 : x4_1 < (l0.length : Int)
    ·rw [if_pos c5] at H
     have c5b0 : decide (x4_1 < (l0.length : Int)) = true := decide_eq_true c5
     clear c5
     (first | rw [c5b0] | (simp only [i64_w, i32_w]; rw [c5b0]) | skip)
     have H' := Aside0.mk H
     clear H
     go_wp2
     go_meet
     case rel => exact ⟨_, (decide (x4_1 < 70)), (by first | rfl | (simp; done) | (simp [*]; done)), H', ⟨by have := HK1.out; first | omega | exact Nat.le_refl _⟩, ⟨by (with_reducible repeat (first | apply Kd.R_alloc | apply Kd.R_drewN | apply Kd.R_drew)); exact HO_3.out⟩, ⟨by repeat (first | (with_reducible first | exact HB.out | apply below_alloc | apply pw_below_drewN | apply below_drew1) | exact HB.out)⟩⟩
    ·rw [if_neg c5] at H
     have c5b0 : decide (x4_1 < (l0.length : Int)) = false := decide_eq_false c5
     clear c5
     (first | rw [c5b0] | (simp only [i64_w, i32_w]; rw [c5b0]) | skip)
     have H' := Aside0.mk H
     clear H
     go_wp2
     go_meet
     case rel => exact ⟨_, (false), (by first | rfl | (simp; done) | (simp [*]; done)), H', ⟨by have := HK1.out; first | omega | exact Nat.le_refl _⟩, ⟨by (with_reducible repeat (first | apply Kd.R_alloc | apply Kd.R_drewN | apply Kd.R_drew)); exact HO_3.out⟩, ⟨by repeat (first | (with_reducible first | exact HB.out | apply below_alloc | apply pw_below_drewN | apply below_drew1) | exact HB.out)⟩⟩
   case rest =>
    clear HC4
    try clear c1
    try clear p2
    try clear c5
    try clear c5b0
    try clear p2
    obtain ⟨kq, x19_3, rfl, HA, HJ3, HO_3, HB⟩ := hcut
    cases kq with
    | zero => exact absurd HA.out (by simp [logjamlaw26_Own.j1])
    | succ kj3 =>
     have H := HA.out
     clear HA
     simp only [logjamlaw26_Own.j1] at H
     by_cases c6 : x19_3 = true
     ·subst c6
      have H1 : (if 0 ≤ x4_1 then (if x4_1 < (l0.length : Int) then (logjamlaw26_Own.l1 kj3 l0 x3_1 x4_1 0 ((rd_T92 l0 x4_1).f0) ([] : List (List (S96)))) else (none)) else (none)) = some r := by rw [if_pos rfl] at H; exact H
      clear H
      have H := H1
      clear H1
      by_cases c7 : 0 ≤ x4_1
      ·rw [if_pos c7] at H
       have c7b0 : decide (0 ≤ x4_1) = true := decide_eq_true c7
       clear c7
       by_cases c8 : x4_1 < (l0.length : Int)
       ·rw [if_pos c8] at H
        have c8b0 : decide (x4_1 < (l0.length : Int)) = true := decide_eq_true c8
        clear c8
        have H' := Aside0.mk H
        clear H
        have p104 : 0 ≤ (x4_1 : Int) := of_decide_eq_true (by first | (with_reducible assumption) | assumption)
        have q104 : x4_1 < (l0.length : Int) := of_decide_eq_true (by first | (with_reducible assumption) | assumption)
        obtain ⟨ad104, A104_1, c104_1, e104, hx104_0, hx104_1, hl104_1, hi104_1⟩ := at_T92 HR0.out x4_1 p104 q104
        cases e104
        replace hx104_0 := (HB.out.cell (World.block_lt_of_cell? w _ hx104_0)).trans hx104_0
        replace hx104_1 := (HB.out.cell (World.block_lt_of_cell? w _ hx104_1)).trans hx104_1
        have HR104_1 := Aside0.mk hi104_1
        have HC104_1 := Aside0.mk hl104_1
        clear hi104_1 hl104_1
        replace p104 := eq_true p104
        replace q104 := eq_true q104
        go_wp2_with (first | ((with_reducible refine gate_dst (N := 5) rfl ?_); refine box_event ?hg (N := 5) ?hd (cs := #[.bool false, .slice none 0 0]) (t := 92) ?hr ?_; (case hd => rfl); (case hg => rfl); (case hr => first | (go_simp; done) | (go_simp; rfl)); intro gb105 hg w9 hbox hb; have n0_ := Aside0.mk (Kd.R_below (Kd.R_elderB (by (with_reducible repeat (first | apply Kd.R_alloc | apply Kd.R_drewN | apply Kd.R_drew)); exact HO_3.out) gb105 (Nat.le_of_eq hg.symm)) hb); have n1_ := Aside0.mk (below_step (by repeat (first | (with_reducible first | exact HB.out | apply below_alloc | apply pw_below_drewN | apply below_drew1) | exact HB.out)) hb); have n2_ := Aside0.mk (hbox); have n3_ := Aside0.mk ((by rw [hg]; exact (below_size (by repeat (first | (with_reducible first | exact HB.out | apply below_alloc | apply pw_below_drewN | apply below_drew1) | exact HB.out))) : w.heap.size ≤ gb105)); have n4_ := Aside0.mk ((by rw [hg]; exact (below_size (by repeat (first | (with_reducible first | exact HB.out | apply below_alloc | apply pw_below_drewN | apply below_drew1) | exact HB.out))) : w.heap.size ≤ gb105)); clear HO_3; clear HB; have HO_3 := n0_; have HB := n1_; have BK105 := n2_; have GW105 := n3_; have GE105 := n4_; clear n0_ n1_ n2_ n3_ n4_; clear hb hbox hg; have hcz10_0 : w9.cell? ⟨gb105, 0, none⟩ = some (.bool false) := (blk_cell BK105.out 0).trans rfl; have hcz10_1 : w9.cell? ⟨gb105, 1, none⟩ = some (.slice none 0 0) := (blk_cell BK105.out 1).trans rfl; have hfz10_0 := blk_frozen BK105.out 0; have hfz10_1 := blk_frozen BK105.out 1))
        go_loopg [6] kj3 (fun kq v6 w' => ∃ (x6_3 : Int) (x106001_3 : List (List (S96))) (u106001 : Value), v6 = .int .i64 x6_3 ∧ Aside0 (logjamlaw26_Own.l1 kq l0 x3_1 x4_1 x6_3 ((rd_T92 l0 x4_1).f0) x106001_3 = some r) ∧ Aside0 (kq ≤ kj3) ∧ Aside0 (Kd.R k92 92 w' w.heap.size (fun k_ => some k_ ≠ (u106001 : Value).ownBlock ∧ k_ ≠ gb105) u3 x3_1) ∧ Aside0 (Kd.R (Kd.slice 96 k96) 93 w' w.heap.size (fun _ => True) u106001 x106001_3) ∧ Aside0 (w'.heap[gb105]? = some (.cells #[.bool ((rd_T92 l0 x4_1).f0), u106001] 92 (0, 0))) ∧ Aside0 (Below w.heap.size w w'))
        case atStart => exact ⟨(0), (([] : List (List (S96)))), (.slice none 0 0), (by first | rfl | (simp; done) | (simp [*]; done)), H', ⟨Nat.le_refl _⟩, ⟨by (with_reducible repeat (first | apply Kd.R_alloc | apply Kd.R_drewN | apply Kd.R_drew)); exact Kd.R_mono (Kd.R_far (p := ⟨gb105, 1, none⟩) (Kd.R_far (p := ⟨gb105, 0, none⟩) (Kd.R_mono HO_3.out (fun k_ hk => (⟨hk, hk.2⟩ : _ ∧ k_ ≠ gb105))) (fun _ hk => hk.2) (.bool ((rd_T92 l0 x4_1).f0))) (fun _ hk => hk.2) (.slice none 0 0)) (fun _ hk => ⟨(by simp [Value.ownBlock]), hk.1.2⟩)⟩, ⟨by first | exact Kd.R_nil _ _ _ _ _ | exact Kd.N_nil _ _ _ _ _ | exact Kd.V_nil _ _ _ _ _ | exact Kd.Q_nil _ _ _ _ _ | exact Kd.S_nil _ _ _ _ _⟩, ⟨by (with_reducible repeat (first | refine blk_drewN ?_ _ | refine blk_drew ?_ | refine blk_alloc ?_ _)); refine blk_put (cs := #[.bool ((rd_T92 l0 x4_1).f0), .slice none 0 0]) ?_ 1 _ rfl; (with_reducible repeat (first | refine blk_drewN ?_ _ | refine blk_drew ?_ | refine blk_alloc ?_ _)); refine blk_put (cs := #[.bool false, .slice none 0 0]) ?_ 0 _ rfl; (with_reducible repeat (first | refine blk_drewN ?_ _ | refine blk_drew ?_ | refine blk_alloc ?_ _)); exact BK105.out⟩, ⟨by repeat (first | (with_reducible first | exact HB.out | apply below_alloc | apply pw_below_drewN | apply below_drew1 | refine below_set ?_ GE105.out) | exact HB.out)⟩⟩
        case round =>
         clear H'
         try clear c1
         try clear p1
         try clear q1
         try clear hx1
         try clear p2
         try clear c5
         try clear c5b0
         try clear c6
         try clear c7
         try clear c7b0
         try clear c8
         try clear c8b0
         try clear c10
         try clear p10
         try clear q10
         try clear hx10
         try clear hcz10_0
         try clear hcz10_1
         try clear hfz10_0
         try clear hfz10_1
         try clear hx104_0
         try clear hx104_1
         try clear p104
         try clear p2
         try clear q104
         obtain ⟨x6_3, x106001_3, u106001, rfl, HA, HK3, HO_3, HO_106001, BK105, HB⟩ := hrel
         cases gk with
         | zero => exact absurd HA.out (by simp [logjamlaw26_Own.l1])
         | succ k3 =>
          have H := HA.out
          clear HA
          simp only [logjamlaw26_Own.l1] at H
          have HC11 := Aside0.mk H
          clear H
          go_upto_region 7 with (fail)
          go_cut [39] (fun v39 wc => ∃ (kq : Nat) (x39_10 : Bool), v39 = .bool x39_10 ∧ Aside0 (logjamlaw26_Own.j3 kq l0 x3_1 x4_1 x6_3 x39_10 ((rd_T92 l0 x4_1).f0) x106001_3 = some r) ∧ Aside0 (kq ≤ k3) ∧ Aside0 (Kd.R k92 92 wc w.heap.size (fun k_ => some k_ ≠ (u106001 : Value).ownBlock ∧ k_ ≠ gb105) u3 x3_1) ∧ Aside0 (Kd.R (Kd.slice 96 k96) 93 wc w.heap.size (fun _ => True) u106001 x106001_3) ∧ Aside0 (wc.heap[gb105]? = some (.cells #[.bool ((rd_T92 l0 x4_1).f0), u106001] 92 (0, 0))) ∧ Aside0 (Below w.heap.size w wc))
          case first =>
           have H := HC11.out
           clear HC11
           by_cases c12 : 0 ≤ x4_1
           ·rw [if_pos c12] at H
            have c12b0 : decide (0 ≤ x4_1) = true := decide_eq_true c12
            clear c12
            (first | rw [c12b0] | (simp only [i64_w, i32_w]; rw [c12b0]) | skip)
            by_cases c13 : x4_1 < (l0.length : Int)
            ·rw [if_pos c13] at H
             have c13b0 : decide (x4_1 < (l0.length : Int)) = true := decide_eq_true c13
             clear c13
             by_cases c14 : x6_3 < (((rd_T92 l0 x4_1).f1).length : Int)
             ·rw [if_pos c14] at H
              have c14b0 : decide (x6_3 < (((rd_T92 l0 x4_1).f1).length : Int)) = true := decide_eq_true c14
              clear c14
              have H' := Aside0.mk H
              clear H
              have p106 : 0 ≤ (x4_1 : Int) := of_decide_eq_true (by first | (with_reducible assumption) | assumption)
              have q106 : x4_1 < (l0.length : Int) := of_decide_eq_true (by first | (with_reducible assumption) | assumption)
              obtain ⟨ad106, A106_1, c106_1, e106, hx106_0, hx106_1, hl106_1, hi106_1⟩ := at_T92 HR0.out x4_1 p106 q106
              obtain rfl : ad104 = ad106 := (by injection e106)
              replace hx106_0 := (HB.out.cell (World.block_lt_of_cell? w _ hx106_0)).trans hx106_0
              replace hx106_1 := (HB.out.cell (World.block_lt_of_cell? w _ hx106_1)).trans hx106_1
              have HR106_1 := Aside0.mk hi106_1
              have HC106_1 := Aside0.mk hl106_1
              clear hi106_1 hl106_1
              replace p106 := eq_true p106
              replace q106 := eq_true q106
              go_wp2
              go_meet
              case rel => exact ⟨_, (decide (x6_3 < 6)), (by first | rfl | (simp; done) | (simp [*]; done)), H', ⟨by have := HK1.out; have := HJ3.out; have := HK3.out; first | omega | exact Nat.le_refl _⟩, ⟨by (with_reducible repeat (first | apply Kd.R_alloc | apply Kd.R_drewN | apply Kd.R_drew)); exact HO_3.out⟩, ⟨by (with_reducible repeat (first | apply Kd.R_alloc | apply Kd.R_drewN | apply Kd.R_drew)); exact HO_106001.out⟩, ⟨by (with_reducible repeat (first | refine blk_drewN ?_ _ | refine blk_drew ?_ | refine blk_alloc ?_ _)); exact BK105.out⟩, ⟨by repeat (first | (with_reducible first | exact HB.out | apply below_alloc | apply pw_below_drewN | apply below_drew1 | refine below_set ?_ GE105.out) | exact HB.out)⟩⟩
             ·rw [if_neg c14] at H
              have c14b0 : decide (x6_3 < (((rd_T92 l0 x4_1).f1).length : Int)) = false := decide_eq_false c14
              clear c14
              have H' := Aside0.mk H
              clear H
              have p106 : 0 ≤ (x4_1 : Int) := of_decide_eq_true (by first | (with_reducible assumption) | assumption)
              have q106 : x4_1 < (l0.length : Int) := of_decide_eq_true (by first | (with_reducible assumption) | assumption)
              obtain ⟨ad106, A106_1, c106_1, e106, hx106_0, hx106_1, hl106_1, hi106_1⟩ := at_T92 HR0.out x4_1 p106 q106
              obtain rfl : ad104 = ad106 := (by injection e106)
              replace hx106_0 := (HB.out.cell (World.block_lt_of_cell? w _ hx106_0)).trans hx106_0
              replace hx106_1 := (HB.out.cell (World.block_lt_of_cell? w _ hx106_1)).trans hx106_1
              have HR106_1 := Aside0.mk hi106_1
              have HC106_1 := Aside0.mk hl106_1
              clear hi106_1 hl106_1
              replace p106 := eq_true p106
              replace q106 := eq_true q106
              go_wp2
              go_meet
              case rel => exact ⟨_, (false), (by first | rfl | (simp; done) | (simp [*]; done)), H', ⟨by have := HK1.out; have := HJ3.out; have := HK3.out; first | omega | exact Nat.le_refl _⟩, ⟨by (with_reducible repeat (first | apply Kd.R_alloc | apply Kd.R_drewN | apply Kd.R_drew)); exact HO_3.out⟩, ⟨by (with_reducible repeat (first | apply Kd.R_alloc | apply Kd.R_drewN | apply Kd.R_drew)); exact HO_106001.out⟩, ⟨by (with_reducible repeat (first | refine blk_drewN ?_ _ | refine blk_drew ?_ | refine blk_alloc ?_ _)); exact BK105.out⟩, ⟨by repeat (first | (with_reducible first | exact HB.out | apply below_alloc | apply pw_below_drewN | apply below_drew1 | refine below_set ?_ GE105.out) | exact HB.out)⟩⟩
            ·rw [if_neg c13] at H
             exact absurd H (by simp)
           ·rw [if_neg c12] at H
            exact absurd H (by simp)
          case rest =>
           clear HC11
           try clear c1
           try clear p1
           try clear q1
           try clear hx1
           try clear p2
           try clear c5
           try clear c5b0
           try clear c6
           try clear c7
           try clear c7b0
           try clear c8
           try clear c8b0
           try clear c10
           try clear p10
           try clear q10
           try clear hx10
           try clear c12
           try clear c12b0
           try clear c13
           try clear c13b0
           try clear c14
           try clear c14b0
           try clear hcz10_0
           try clear hcz10_1
           try clear hfz10_0
           try clear hfz10_1
           try clear hx104_0
           try clear hx104_1
           try clear hx106_0
           try clear hx106_1
           try clear p1
           try clear p10
           try clear p104
           try clear p106
           try clear p2
           try clear q1
           try clear q10
           try clear q104
           try clear q106
           obtain ⟨kq, x39_10, rfl, HA, HJ10, HO_3, HO_106001, BK105, HB⟩ := hcut
           cases kq with
           | zero => exact absurd HA.out (by simp [logjamlaw26_Own.j3])
           | succ kj10 =>
            have H := HA.out
            clear HA
            simp only [logjamlaw26_Own.j3] at H
            by_cases c15 : x39_10 = true
            ·subst c15
             have H1 : (logjamlaw26_Own.l2 kj10 l0 x3_1 x4_1 x6_3 (([] : List (S96))) 0 ((rd_T92 l0 x4_1).f0) x106001_3) = some r := by rw [if_pos rfl] at H; exact H
             clear H
             have H := H1
             clear H1
             obtain ⟨y110, hy110⟩ : ∃ y_ : List (S96), y_ = (([] : List (S96))) := ⟨_, rfl⟩
             replace H : (logjamlaw26_Own.l2 kj10 l0 x3_1 x4_1 x6_3 y110 0 ((rd_T92 l0 x4_1).f0) x106001_3) = some r := by first | (rw [hy110]; with_reducible exact H) | (have H2_ := (Option.bind_some _ _).symm.trans H; rw [hy110]; with_reducible exact H2_) | (have H2_ := (Option.bind_some _ _).symm.trans H; with_reducible exact H2_) | with_reducible exact H | (rw [hy110]; exact H) | exact H
             have Ny110 := Aside0.mk hy110
             clear hy110
             have H' := Aside0.mk H
             clear H
             go_wp2_with (first | ((with_reducible refine gate_dst (N := 42) rfl ?_); refine Kd.S_lit k96 _ 96 ?hg (N := 42) ?hd (xs := ([] : List (S96))) (inner := []) (ok := fun _ => True) (okp := fun _ => True) ?hr ?hp (fun _ hk => hk) trivial (Below.refl _ _) (Nat.le_refl _) (by simp) ?_; (case hd => rfl); (case hg => rfl); (case hr => first | (go_simp; done) | (go_simp; rfl)); (case hp => exact (Reps.none _ _)); intro v111 w16 ho17 hb hg_ hnew_; clear hg_ hnew_; (first | rw [← Ny110.out] at ho17 | (simp only [Int.reduceToNat] at ho17; rw [← Ny110.out] at ho17)); have n0_ := Aside0.mk (Kd.R_elder' (by (with_reducible repeat (first | apply Kd.R_alloc | apply Kd.R_drewN | apply Kd.R_drew)); exact HO_3.out) (Kd.S_base ho17) hb); have n1_ := Aside0.mk (Kd.R_elder' (by (with_reducible repeat (first | apply Kd.R_alloc | apply Kd.R_drewN | apply Kd.R_drew)); exact HO_106001.out) (Kd.S_base ho17) hb); have n2_ := Aside0.mk (Kd.S_lower ho17 (below_size (by repeat (first | (with_reducible first | exact HB.out | apply below_alloc | apply pw_below_drewN | apply below_drew1 | refine below_set ?_ GE105.out) | exact HB.out)))); have n3_ := Aside0.mk (blk_below (g := gb105) (o := .cells #[.bool ((rd_T92 l0 x4_1).f0), u106001] 92 (0, 0)) (by (with_reducible repeat (first | refine blk_drewN ?_ _ | refine blk_drew ?_ | refine blk_alloc ?_ _)); exact BK105.out) hb); have n4_ := Aside0.mk (below_step (by repeat (first | (with_reducible first | exact HB.out | apply below_alloc | apply pw_below_drewN | apply below_drew1 | refine below_set ?_ GE105.out) | exact HB.out)) hb); clear HO_3; clear HO_106001; clear BK105; clear HB; have HO_3 := n0_; have HO_106001 := n1_; have HO112 := n2_; have BK105 := n3_; have HB := n4_; clear n0_ n1_ n2_ n3_ n4_; clear hb ho17))
             go_loopg [7, 8] kj10 (fun kq v7 v8 w' => ∃ (x7_5 : List (S96)) (x8_5 : Int), v8 = .int .i64 x8_5 ∧ Aside0 (logjamlaw26_Own.l2 kq l0 x3_1 x4_1 x6_3 x7_5 x8_5 ((rd_T92 l0 x4_1).f0) x106001_3 = some r) ∧ Aside0 (kq ≤ kj10) ∧ Aside0 (Kd.R k92 92 w' w.heap.size (fun k_ => some k_ ≠ (v7 : Value).ownBlock ∧ some k_ ≠ (u106001 : Value).ownBlock ∧ k_ ≠ gb105) u3 x3_1) ∧ Aside0 (Kd.S k96 96 w' w.heap.size (fun _ => True) v7 x7_5) ∧ Aside0 (Kd.R (Kd.slice 96 k96) 93 w' w.heap.size (fun k_ => some k_ ≠ (v7 : Value).ownBlock) u106001 x106001_3) ∧ Aside0 (w'.heap[gb105]? = some (.cells #[.bool ((rd_T92 l0 x4_1).f0), u106001] 92 (0, 0))) ∧ Aside0 (Below w.heap.size w w'))
             case atStart => exact ⟨(y110), (0), (by first | rfl | (simp; done) | (simp [*]; done)), H', ⟨Nat.le_refl _⟩, ⟨by (with_reducible repeat (first | apply Kd.R_alloc | apply Kd.R_drewN | apply Kd.R_drew)); exact Kd.R_mono HO_3.out (fun _ hk => ⟨hk.2, ⟨hk.1.1, hk.1.2⟩⟩)⟩, ⟨by (with_reducible repeat (first | apply Kd.S_alloc | apply Kd.S_drewN | apply Kd.S_drew)); exact HO112.out⟩, ⟨by (with_reducible repeat (first | apply Kd.R_alloc | apply Kd.R_drewN | apply Kd.R_drew)); exact Kd.R_mono HO_106001.out (fun _ hk => hk.2)⟩, ⟨by (with_reducible repeat (first | refine blk_drewN ?_ _ | refine blk_drew ?_ | refine blk_alloc ?_ _)); exact BK105.out⟩, ⟨by repeat (first | (with_reducible first | exact HB.out | apply below_alloc | apply pw_below_drewN | apply below_drew1 | refine below_set ?_ GE105.out) | exact HB.out)⟩⟩
             case round =>
              clear H'
              try clear c1
              try clear p1
              try clear q1
              try clear hx1
              try clear p2
              try clear c5
              try clear c5b0
              try clear c6
              try clear c7
              try clear c7b0
              try clear c8
              try clear c8b0
              try clear c10
              try clear p10
              try clear q10
              try clear hx10
              try clear c12
              try clear c12b0
              try clear c13
              try clear c13b0
              try clear c14
              try clear c14b0
              try clear c15
              try clear hcz10_0
              try clear hcz10_1
              try clear hfz10_0
              try clear hfz10_1
              try clear hx104_0
              try clear hx104_1
              try clear hx106_0
              try clear hx106_1
              try clear p1
              try clear p10
              try clear p104
              try clear p106
              try clear p2
              try clear q1
              try clear q10
              try clear q104
              try clear q106
              obtain ⟨x7_5, x8_5, rfl, HA, HK5, HO_3, HO_7, HO_106001, BK105, HB⟩ := hrel
              cases gk with
              | zero => exact absurd HA.out (by simp [logjamlaw26_Own.l2])
              | succ k5 =>
               have H := HA.out
               clear HA
               simp only [logjamlaw26_Own.l2] at H
               have HC18 := Aside0.mk H
               clear H
               go_upto_region 11 with (fail)
               go_cut [57] (fun v57 wc => ∃ (kq : Nat) (x57_17 : Bool), v57 = .bool x57_17 ∧ Aside0 (logjamlaw26_Own.j5 kq l0 x3_1 x4_1 x6_3 x7_5 x8_5 x57_17 ((rd_T92 l0 x4_1).f0) x106001_3 = some r) ∧ Aside0 (kq ≤ k5) ∧ Aside0 (Kd.R k92 92 wc w.heap.size (fun k_ => some k_ ≠ (u7 : Value).ownBlock ∧ some k_ ≠ (u106001 : Value).ownBlock ∧ k_ ≠ gb105) u3 x3_1) ∧ Aside0 (Kd.S k96 96 wc w.heap.size (fun _ => True) u7 x7_5) ∧ Aside0 (Kd.R (Kd.slice 96 k96) 93 wc w.heap.size (fun k_ => some k_ ≠ (u7 : Value).ownBlock) u106001 x106001_3) ∧ Aside0 (wc.heap[gb105]? = some (.cells #[.bool ((rd_T92 l0 x4_1).f0), u106001] 92 (0, 0))) ∧ Aside0 (Below w.heap.size w wc))
               case first =>
                have H := HC18.out
                clear HC18
                by_cases c19 : 0 ≤ x4_1
                ·rw [if_pos c19] at H
                 have c19b0 : decide (0 ≤ x4_1) = true := decide_eq_true c19
                 clear c19
                 (first | rw [c19b0] | (simp only [i64_w, i32_w]; rw [c19b0]) | skip)
                 by_cases c20 : x4_1 < (l0.length : Int)
                 ·rw [if_pos c20] at H
                  have c20b0 : decide (x4_1 < (l0.length : Int)) = true := decide_eq_true c20
                  clear c20
                  by_cases c21 : 0 ≤ x6_3
                  ·rw [if_pos c21] at H
                   have c21b0 : decide (0 ≤ x6_3) = true := decide_eq_true c21
                   clear c21
                   by_cases c22 : x6_3 < (((rd_T92 l0 x4_1).f1).length : Int)
                   ·rw [if_pos c22] at H
                    have c22b0 : decide (x6_3 < (((rd_T92 l0 x4_1).f1).length : Int)) = true := decide_eq_true c22
                    clear c22
                    by_cases c23 : x8_5 < ((rd_L5 ((rd_T92 l0 x4_1).f1) x6_3).length : Int)
                    ·rw [if_pos c23] at H
                     have c23b0 : decide (x8_5 < ((rd_L5 ((rd_T92 l0 x4_1).f1) x6_3).length : Int)) = true := decide_eq_true c23
                     clear c23
                     have H' := Aside0.mk H
                     clear H
                     have p113 : 0 ≤ (x4_1 : Int) := of_decide_eq_true (by first | (with_reducible assumption) | assumption)
                     have q113 : x4_1 < (l0.length : Int) := of_decide_eq_true (by first | (with_reducible assumption) | assumption)
                     obtain ⟨ad113, A113_1, c113_1, e113, hx113_0, hx113_1, hl113_1, hi113_1⟩ := at_T92 HR0.out x4_1 p113 q113
                     obtain rfl : ad104 = ad113 := (by injection e113)
                     replace hx113_0 := (HB.out.cell (World.block_lt_of_cell? w _ hx113_0)).trans hx113_0
                     replace hx113_1 := (HB.out.cell (World.block_lt_of_cell? w _ hx113_1)).trans hx113_1
                     have HR113_1 := Aside0.mk hi113_1
                     have HC113_1 := Aside0.mk hl113_1
                     clear hi113_1 hl113_1
                     replace p113 := eq_true p113
                     replace q113 := eq_true q113
                     have p114 : 0 ≤ (x6_3 : Int) := of_decide_eq_true (by first | (with_reducible assumption) | assumption)
                     have q114 : x6_3 < (((rd_T92 l0 x4_1).f1).length : Int) := of_decide_eq_true (by first | (with_reducible assumption) | assumption)
                     obtain ⟨ad114, A114_0, c114_0, e114, hx114_0, hl114_0, hi114_0⟩ := at_L5 HR113_1.out x6_3 p114 q114
                     cases e114
                     replace hx114_0 := (HB.out.cell (World.block_lt_of_cell? w _ hx114_0)).trans hx114_0
                     have HR114_0 := Aside0.mk hi114_0
                     have HC114_0 := Aside0.mk hl114_0
                     clear hi114_0 hl114_0
                     replace p114 := eq_true p114
                     replace q114 := eq_true q114
                     go_wp2
                     go_meet
                     case rel => exact ⟨_, (decide (x8_5 < 6)), (by first | rfl | (simp; done) | (simp [*]; done)), H', ⟨by have := HK1.out; have := HJ3.out; have := HK3.out; have := HJ10.out; have := HK5.out; first | omega | exact Nat.le_refl _⟩, ⟨by (with_reducible repeat (first | apply Kd.R_alloc | apply Kd.R_drewN | apply Kd.R_drew)); exact HO_3.out⟩, ⟨by (with_reducible repeat (first | apply Kd.S_alloc | apply Kd.S_drewN | apply Kd.S_drew)); exact HO_7.out⟩, ⟨by (with_reducible repeat (first | apply Kd.R_alloc | apply Kd.R_drewN | apply Kd.R_drew)); exact HO_106001.out⟩, ⟨by (with_reducible repeat (first | refine blk_drewN ?_ _ | refine blk_drew ?_ | refine blk_alloc ?_ _)); exact BK105.out⟩, ⟨by repeat (first | (with_reducible first | exact HB.out | apply below_alloc | apply pw_below_drewN | apply below_drew1 | refine below_set ?_ GE105.out) | exact HB.out)⟩⟩
                    ·rw [if_neg c23] at H
                     have c23b0 : decide (x8_5 < ((rd_L5 ((rd_T92 l0 x4_1).f1) x6_3).length : Int)) = false := decide_eq_false c23
                     clear c23
                     have H' := Aside0.mk H
                     clear H
                     have p113 : 0 ≤ (x4_1 : Int) := of_decide_eq_true (by first | (with_reducible assumption) | assumption)
                     have q113 : x4_1 < (l0.length : Int) := of_decide_eq_true (by first | (with_reducible assumption) | assumption)
                     obtain ⟨ad113, A113_1, c113_1, e113, hx113_0, hx113_1, hl113_1, hi113_1⟩ := at_T92 HR0.out x4_1 p113 q113
                     obtain rfl : ad104 = ad113 := (by injection e113)
                     replace hx113_0 := (HB.out.cell (World.block_lt_of_cell? w _ hx113_0)).trans hx113_0
                     replace hx113_1 := (HB.out.cell (World.block_lt_of_cell? w _ hx113_1)).trans hx113_1
                     have HR113_1 := Aside0.mk hi113_1
                     have HC113_1 := Aside0.mk hl113_1
                     clear hi113_1 hl113_1
                     replace p113 := eq_true p113
                     replace q113 := eq_true q113
                     have p114 : 0 ≤ (x6_3 : Int) := of_decide_eq_true (by first | (with_reducible assumption) | assumption)
                     have q114 : x6_3 < (((rd_T92 l0 x4_1).f1).length : Int) := of_decide_eq_true (by first | (with_reducible assumption) | assumption)
                     obtain ⟨ad114, A114_0, c114_0, e114, hx114_0, hl114_0, hi114_0⟩ := at_L5 HR113_1.out x6_3 p114 q114
                     cases e114
                     replace hx114_0 := (HB.out.cell (World.block_lt_of_cell? w _ hx114_0)).trans hx114_0
                     have HR114_0 := Aside0.mk hi114_0
                     have HC114_0 := Aside0.mk hl114_0
                     clear hi114_0 hl114_0
                     replace p114 := eq_true p114
                     replace q114 := eq_true q114
                     go_wp2
                     go_meet
                     case rel => exact ⟨_, (false), (by first | rfl | (simp; done) | (simp [*]; done)), H', ⟨by have := HK1.out; have := HJ3.out; have := HK3.out; have := HJ10.out; have := HK5.out; first | omega | exact Nat.le_refl _⟩, ⟨by (with_reducible repeat (first | apply Kd.R_alloc | apply Kd.R_drewN | apply Kd.R_drew)); exact HO_3.out⟩, ⟨by (with_reducible repeat (first | apply Kd.S_alloc | apply Kd.S_drewN | apply Kd.S_drew)); exact HO_7.out⟩, ⟨by (with_reducible repeat (first | apply Kd.R_alloc | apply Kd.R_drewN | apply Kd.R_drew)); exact HO_106001.out⟩, ⟨by (with_reducible repeat (first | refine blk_drewN ?_ _ | refine blk_drew ?_ | refine blk_alloc ?_ _)); exact BK105.out⟩, ⟨by repeat (first | (with_reducible first | exact HB.out | apply below_alloc | apply pw_below_drewN | apply below_drew1 | refine below_set ?_ GE105.out) | exact HB.out)⟩⟩
                   ·rw [if_neg c22] at H
                    exact absurd H (by simp)
                  ·rw [if_neg c21] at H
                   exact absurd H (by simp)
                 ·rw [if_neg c20] at H
                  exact absurd H (by simp)
                ·rw [if_neg c19] at H
                 exact absurd H (by simp)
               case rest =>
                clear HC18
                try clear c1
                try clear p1
                try clear q1
                try clear hx1
                try clear c2
                try clear p2
                try clear c5
                try clear c5b0
                try clear c6
                try clear c7
                try clear c7b0
                try clear c8
                try clear c8b0
                try clear c10
                try clear p10
                try clear q10
                try clear hx10
                try clear c11
                try clear p11
                try clear q11
                try clear hx11
                try clear c12
                try clear c12b0
                try clear c13
                try clear c13b0
                try clear c14
                try clear c14b0
                try clear c15
                try clear c19
                try clear c19b0
                try clear c20
                try clear c20b0
                try clear c21
                try clear c21b0
                try clear c22
                try clear c22b0
                try clear c23
                try clear c23b0
                try clear hcz10_0
                try clear hcz10_1
                try clear hfz10_0
                try clear hfz10_1
                try clear hx104_0
                try clear hx104_1
                try clear hx106_0
                try clear hx106_1
                try clear hx113_0
                try clear hx113_1
                try clear hx114_0
                try clear p1
                try clear p10
                try clear p104
                try clear p106
                try clear p113
                try clear p114
                try clear p2
                try clear q1
                try clear q10
                try clear q104
                try clear q106
                try clear q113
                try clear q114
                obtain ⟨kq, x57_17, rfl, HA, HJ17, HO_3, HO_7, HO_106001, BK105, HB⟩ := hcut
                cases kq with
                | zero => exact absurd HA.out (by simp [logjamlaw26_Own.j5])
                | succ kj17 =>
                 have H := HA.out
                 clear HA
                 simp only [logjamlaw26_Own.j5] at H
                 by_cases c24 : x57_17 = true
                 ·subst c24
                  have H1 : (if 0 ≤ x4_1 then (if x4_1 < (l0.length : Int) then (if 0 ≤ x6_3 then (if x6_3 < (((rd_T92 l0 x4_1).f1).length : Int) then (if 0 ≤ x8_5 then (if x8_5 < ((rd_L5 ((rd_T92 l0 x4_1).f1) x6_3).length : Int) then (if (((rd_T96 (rd_L5 ((rd_T92 l0 x4_1).f1) x6_3) x8_5).f1).length : Int) > 70 then (if 70 ≤ (((rd_T96 (rd_L5 ((rd_T92 l0 x4_1).f1) x6_3) x8_5).f1).length : Int) then ((some (((rd_T96 (rd_L5 ((rd_T92 l0 x4_1).f1) x6_3) x8_5).f1).take 70 : List (S108))).bind fun y119 => ((some (([] : List (S108)) : List (S108))).bind fun y123 => (if y123.length + y119.length < 8796093022208 then (if x7_5.length < 4398046511104 then (logjamlaw26_Own.l2 kj17 l0 x3_1 x4_1 x6_3 (x7_5 ++ [(⟨(rd_T96 (rd_L5 ((rd_T92 l0 x4_1).f1) x6_3) x8_5).f0, (y123 ++ y119)⟩ : S96)]) (wrap64 (x8_5 + 1)) ((rd_T92 l0 x4_1).f0) x106001_3) else (none)) else (none)))) else (none)) else ((some (([] : List (S108)) : List (S108))).bind fun y132 => (if y132.length + ((rd_T96 (rd_L5 ((rd_T92 l0 x4_1).f1) x6_3) x8_5).f1).length < 8796093022208 then (if x7_5.length < 4398046511104 then (logjamlaw26_Own.l2 kj17 l0 x3_1 x4_1 x6_3 (x7_5 ++ [(⟨(rd_T96 (rd_L5 ((rd_T92 l0 x4_1).f1) x6_3) x8_5).f0, (y132 ++ ((rd_T96 (rd_L5 ((rd_T92 l0 x4_1).f1) x6_3) x8_5).f1))⟩ : S96)]) (wrap64 (x8_5 + 1)) ((rd_T92 l0 x4_1).f0) x106001_3) else (none)) else (none)))) else (none)) else (none)) else (none)) else (none)) else (none)) else (none)) = some r := by rw [if_pos rfl] at H; exact H
                  clear H
                  have H := H1
                  clear H1
                  by_cases c25 : 0 ≤ x4_1
                  ·rw [if_pos c25] at H
                   have c25b0 : decide (0 ≤ x4_1) = true := decide_eq_true c25
                   clear c25
                   by_cases c26 : x4_1 < (l0.length : Int)
                   ·rw [if_pos c26] at H
                    have c26b0 : decide (x4_1 < (l0.length : Int)) = true := decide_eq_true c26
                    clear c26
                    by_cases c27 : 0 ≤ x6_3
                    ·rw [if_pos c27] at H
                     have c27b0 : decide (0 ≤ x6_3) = true := decide_eq_true c27
                     clear c27
                     by_cases c28 : x6_3 < (((rd_T92 l0 x4_1).f1).length : Int)
                     ·rw [if_pos c28] at H
                      have c28b0 : decide (x6_3 < (((rd_T92 l0 x4_1).f1).length : Int)) = true := decide_eq_true c28
                      clear c28
                      by_cases c29 : 0 ≤ x8_5
                      ·rw [if_pos c29] at H
                       have c29b0 : decide (0 ≤ x8_5) = true := decide_eq_true c29
                       clear c29
                       by_cases c30 : x8_5 < ((rd_L5 ((rd_T92 l0 x4_1).f1) x6_3).length : Int)
                       ·rw [if_pos c30] at H
                        have c30b0 : decide (x8_5 < ((rd_L5 ((rd_T92 l0 x4_1).f1) x6_3).length : Int)) = true := decide_eq_true c30
                        clear c30
                        by_cases c31 : (((rd_T96 (rd_L5 ((rd_T92 l0 x4_1).f1) x6_3) x8_5).f1).length : Int) > 70
                        ·rw [if_pos c31] at H
                         have c31b0 : decide (70 < (((rd_T96 (rd_L5 ((rd_T92 l0 x4_1).f1) x6_3) x8_5).f1).length : Int)) = true := decide_eq_true c31
                         have c31b1 : decide (70 < ((rd_T96 (rd_L5 ((rd_T92 l0 x4_1).f1) x6_3) x8_5).f1).length) = true := decide_eq_true (by omega)
                         clear c31
                         by_cases c32 : 70 ≤ (((rd_T96 (rd_L5 ((rd_T92 l0 x4_1).f1) x6_3) x8_5).f1).length : Int)
                         ·rw [if_pos c32] at H
                          have c32b0 := eq_true c32
                          have c32b1 : decide (70 ≤ (((rd_T96 (rd_L5 ((rd_T92 l0 x4_1).f1) x6_3) x8_5).f1).length : Int)) = true := decide_eq_true c32
                          clear c32
                          obtain ⟨y119, hy119⟩ : ∃ y_ : List (S108), y_ = (((rd_T96 (rd_L5 ((rd_T92 l0 x4_1).f1) x6_3) x8_5).f1).take 70) := ⟨_, rfl⟩
                          replace H : ((some (([] : List (S108)) : List (S108))).bind fun y123 => (if y123.length + y119.length < 8796093022208 then (if x7_5.length < 4398046511104 then (logjamlaw26_Own.l2 kj17 l0 x3_1 x4_1 x6_3 (x7_5 ++ [(⟨(rd_T96 (rd_L5 ((rd_T92 l0 x4_1).f1) x6_3) x8_5).f0, (y123 ++ y119)⟩ : S96)]) (wrap64 (x8_5 + 1)) ((rd_T92 l0 x4_1).f0) x106001_3) else (none)) else (none))) = some r := by first | (rw [hy119]; with_reducible exact H) | (have H2_ := (Option.bind_some _ _).symm.trans H; rw [hy119]; with_reducible exact H2_) | (have H2_ := (Option.bind_some _ _).symm.trans H; with_reducible exact H2_) | with_reducible exact H | (rw [hy119]; exact H) | exact H
                          have Ny119 := Aside0.mk hy119
                          clear hy119
                          obtain ⟨y123, hy123⟩ : ∃ y_ : List (S108), y_ = (([] : List (S108))) := ⟨_, rfl⟩
                          replace H : (if y123.length + y119.length < 8796093022208 then (if x7_5.length < 4398046511104 then (logjamlaw26_Own.l2 kj17 l0 x3_1 x4_1 x6_3 (x7_5 ++ [(⟨(rd_T96 (rd_L5 ((rd_T92 l0 x4_1).f1) x6_3) x8_5).f0, (y123 ++ y119)⟩ : S96)]) (wrap64 (x8_5 + 1)) ((rd_T92 l0 x4_1).f0) x106001_3) else (none)) else (none)) = some r := by first | (rw [hy123]; with_reducible exact H) | (have H2_ := (Option.bind_some _ _).symm.trans H; rw [hy123]; with_reducible exact H2_) | (have H2_ := (Option.bind_some _ _).symm.trans H; with_reducible exact H2_) | with_reducible exact H | (rw [hy123]; exact H) | exact H
                          have Ny123 := Aside0.mk hy123
                          clear hy123
                          by_cases c33 : y123.length + y119.length < 8796093022208
                          ·rw [if_pos c33] at H
                           have LMc33 := Aside0.mk c33
                           clear c33
                           obtain ⟨y126, hy126⟩ : ∃ y_ : List (S108), y_ = (y123 ++ y119) := ⟨_, rfl⟩
                           replace H : (if x7_5.length < 4398046511104 then (logjamlaw26_Own.l2 kj17 l0 x3_1 x4_1 x6_3 (x7_5 ++ [(⟨(rd_T96 (rd_L5 ((rd_T92 l0 x4_1).f1) x6_3) x8_5).f0, y126⟩ : S96)]) (wrap64 (x8_5 + 1)) ((rd_T92 l0 x4_1).f0) x106001_3) else (none)) = some r := by first | (rw [hy126]; with_reducible exact H) | (have H2_ := (Option.bind_some _ _).symm.trans H; rw [hy126]; with_reducible exact H2_) | (have H2_ := (Option.bind_some _ _).symm.trans H; with_reducible exact H2_) | with_reducible exact H | (rw [hy126]; exact H) | exact H
                           have Ny126 := Aside0.mk hy126
                           clear hy126
                           by_cases c34 : x7_5.length < 4398046511104
                           ·rw [if_pos c34] at H
                            have LMc34 := Aside0.mk c34
                            clear c34
                            obtain ⟨y129, hy129⟩ : ∃ y_ : List (S96), y_ = (x7_5 ++ [(⟨(rd_T96 (rd_L5 ((rd_T92 l0 x4_1).f1) x6_3) x8_5).f0, y126⟩ : S96)]) := ⟨_, rfl⟩
                            replace H : (logjamlaw26_Own.l2 kj17 l0 x3_1 x4_1 x6_3 y129 (wrap64 (x8_5 + 1)) ((rd_T92 l0 x4_1).f0) x106001_3) = some r := by first | (rw [hy129]; with_reducible exact H) | (have H2_ := (Option.bind_some _ _).symm.trans H; rw [hy129]; with_reducible exact H2_) | (have H2_ := (Option.bind_some _ _).symm.trans H; with_reducible exact H2_) | with_reducible exact H | (rw [hy129]; exact H) | exact H
                            have Ny129 := Aside0.mk hy129
                            clear hy129
                            have H' := Aside0.mk H
                            clear H
                            have p115 : 0 ≤ (x4_1 : Int) := of_decide_eq_true (by first | (with_reducible assumption) | assumption)
                            have q115 : x4_1 < (l0.length : Int) := of_decide_eq_true (by first | (with_reducible assumption) | assumption)
                            obtain ⟨ad115, A115_1, c115_1, e115, hx115_0, hx115_1, hl115_1, hi115_1⟩ := at_T92 HR0.out x4_1 p115 q115
                            obtain rfl : ad104 = ad115 := (by injection e115)
                            replace hx115_0 := (HB.out.cell (World.block_lt_of_cell? w _ hx115_0)).trans hx115_0
                            replace hx115_1 := (HB.out.cell (World.block_lt_of_cell? w _ hx115_1)).trans hx115_1
                            have HR115_1 := Aside0.mk hi115_1
                            have HC115_1 := Aside0.mk hl115_1
                            clear hi115_1 hl115_1
                            replace p115 := eq_true p115
                            replace q115 := eq_true q115
                            have p116 : 0 ≤ (x6_3 : Int) := of_decide_eq_true (by first | (with_reducible assumption) | assumption)
                            have q116 : x6_3 < (((rd_T92 l0 x4_1).f1).length : Int) := of_decide_eq_true (by first | (with_reducible assumption) | assumption)
                            obtain ⟨ad116, A116_0, c116_0, e116, hx116_0, hl116_0, hi116_0⟩ := at_L5 HR115_1.out x6_3 p116 q116
                            cases e116
                            replace hx116_0 := (HB.out.cell (World.block_lt_of_cell? w _ hx116_0)).trans hx116_0
                            have HR116_0 := Aside0.mk hi116_0
                            have HC116_0 := Aside0.mk hl116_0
                            clear hi116_0 hl116_0
                            replace p116 := eq_true p116
                            replace q116 := eq_true q116
                            have p117 : 0 ≤ (x8_5 : Int) := of_decide_eq_true (by first | (with_reducible assumption) | assumption)
                            have q117 : x8_5 < ((rd_L5 ((rd_T92 l0 x4_1).f1) x6_3).length : Int) := of_decide_eq_true (by first | (with_reducible assumption) | assumption)
                            obtain ⟨ad117, A117_1, c117_1, e117, hx117_0, hx117_1, hl117_1, hi117_1⟩ := at_T96 HR116_0.out x8_5 p117 q117
                            cases e117
                            replace hx117_0 := (HB.out.cell (World.block_lt_of_cell? w _ hx117_0)).trans hx117_0
                            replace hx117_1 := (HB.out.cell (World.block_lt_of_cell? w _ hx117_1)).trans hx117_1
                            have HR117_1 := Aside0.mk hi117_1
                            have HC117_1 := Aside0.mk hl117_1
                            clear hi117_1 hl117_1
                            replace p117 := eq_true p117
                            replace q117 := eq_true q117
                            try go_wp2_with (first | ((with_reducible refine gate_dst (N := 9) rfl ?_); refine box_event ?hg (N := 9) ?hd (cs := #[.int .i64 0, .slice none 0 0]) (t := 96) ?hr ?_; (case hd => rfl); (case hg => rfl); (case hr => first | (go_simp; done) | (go_simp; rfl)); intro gb118 hg w35 hbox hb; have n0_ := Aside0.mk (Kd.R_below (Kd.R_elderB (by (with_reducible repeat (first | apply Kd.R_alloc | apply Kd.R_drewN | apply Kd.R_drew)); exact HO_3.out) gb118 (Nat.le_of_eq hg.symm)) hb); have n1_ := Aside0.mk (Kd.S_below (Kd.S_elderB (by (with_reducible repeat (first | apply Kd.S_alloc | apply Kd.S_drewN | apply Kd.S_drew)); exact HO_7.out) gb118 (Nat.le_of_eq hg.symm)) hb); have n2_ := Aside0.mk (Kd.R_below (Kd.R_elderB (by (with_reducible repeat (first | apply Kd.R_alloc | apply Kd.R_drewN | apply Kd.R_drew)); exact HO_106001.out) gb118 (Nat.le_of_eq hg.symm)) hb); have n3_ := Aside0.mk (blk_below (g := gb105) (o := .cells #[.bool ((rd_T92 l0 x4_1).f0), u106001] 92 (0, 0)) (by (with_reducible repeat (first | refine blk_drewN ?_ _ | refine blk_drew ?_ | refine blk_alloc ?_ _)); exact BK105.out) hb); have n4_ := Aside0.mk (below_step (by repeat (first | (with_reducible first | exact HB.out | apply below_alloc | apply pw_below_drewN | apply below_drew1 | refine below_set ?_ GE105.out) | exact HB.out)) hb); have n5_ := Aside0.mk (hbox); have n6_ := Aside0.mk ((by rw [hg]; exact (below_size (by repeat (first | (with_reducible first | exact HB.out | apply below_alloc | apply pw_below_drewN | apply below_drew1 | refine below_set ?_ GE105.out) | exact HB.out))) : w.heap.size ≤ gb118)); have n7_ := Aside0.mk ((by rw [hg]; exact (below_size (by repeat (first | (with_reducible first | exact HB.out | apply below_alloc | apply pw_below_drewN | apply below_drew1 | refine below_set ?_ GE105.out) | exact HB.out))) : w.heap.size ≤ gb118)); have n8_ := Aside0.mk ((by rw [hg]; exact Nat.ne_of_lt (blk_lt (g := gb105) (o := .cells #[.bool ((rd_T92 l0 x4_1).f0), u106001] 92 (0, 0)) (by (with_reducible repeat (first | refine blk_drewN ?_ _ | refine blk_drew ?_ | refine blk_alloc ?_ _)); exact BK105.out)) : gb105 ≠ gb118)); have n9_ := Aside0.mk ((by rw [hg]; exact Nat.ne_of_gt (blk_lt (g := gb105) (o := .cells #[.bool ((rd_T92 l0 x4_1).f0), u106001] 92 (0, 0)) (by (with_reducible repeat (first | refine blk_drewN ?_ _ | refine blk_drew ?_ | refine blk_alloc ?_ _)); exact BK105.out)) : gb118 ≠ gb105)); clear HO_3; clear HO_7; clear HO_106001; clear BK105; clear HB; have HO_3 := n0_; have HO_7 := n1_; have HO_106001 := n2_; have BK105 := n3_; have HB := n4_; have BK118 := n5_; have GW118 := n6_; have GE118 := n7_; have NB105_118 := n8_; have NB118_105 := n9_; clear n0_ n1_ n2_ n3_ n4_ n5_ n6_ n7_ n8_ n9_; clear hb hbox hg; have hnb36 := NB118_105.out; have hnc36 := NB105_118.out; have hcz37_0 : w35.cell? ⟨gb118, 0, none⟩ = some (.int .i64 0) := (blk_cell BK118.out 0).trans rfl; have hcz37_1 : w35.cell? ⟨gb118, 1, none⟩ = some (.slice none 0 0) := (blk_cell BK118.out 1).trans rfl; have hfz37_0 := blk_frozen BK118.out 0; have hfz37_1 := blk_frozen BK118.out 1) | ((with_reducible refine gate_store (t := 96) (p := 9) rfl ?_); refine store_event (t := 96) (p := 9) (v := ?vo_w38) (w1 := ((w35.setCell ⟨gb118, 0, none⟩ (.int .i64 ((rd_T96 (rd_L5 ((rd_T92 l0 x4_1).f1) x6_3) x8_5).f0))).setCell ⟨gb118, 1, none⟩ (.slice A117_1 ((rd_T96 (rd_L5 ((rd_T92 l0 x4_1).f1) x6_3) x8_5).f1).length c117_1))) ?hg ?ho ?hn ?hr ?_; (case ho => rfl); (case hg => rfl); (case hn => rfl); (case hr => first | (go_simp; done) | (go_simp; rfl)); intro w38 hw; have n0_ : Aside0 (Kd.R k92 92 w38 w.heap.size (fun k_ => some k_ ≠ (u7 : Value).ownBlock ∧ some k_ ≠ (u106001 : Value).ownBlock ∧ k_ ≠ gb105 ∧ k_ ≠ gb118) u3 x3_1) := ⟨(by rw [hw]; exact (by (with_reducible repeat (first | apply Kd.R_alloc | apply Kd.R_drewN | apply Kd.R_drew)); exact Kd.R_mono (Kd.R_far (p := ⟨gb118, 1, none⟩) (Kd.R_far (p := ⟨gb118, 0, none⟩) (Kd.R_mono HO_3.out (fun k_ hk => (⟨hk, hk.2⟩ : _ ∧ k_ ≠ gb118))) (fun _ hk => hk.2) (.int .i64 ((rd_T96 (rd_L5 ((rd_T92 l0 x4_1).f1) x6_3) x8_5).f0))) (fun _ hk => hk.2) (.slice A117_1 ((rd_T96 (rd_L5 ((rd_T92 l0 x4_1).f1) x6_3) x8_5).f1).length c117_1)) (fun _ hk => ⟨hk.1.1.1, ⟨hk.1.1.2.1, ⟨hk.1.1.2.2, hk.1.2⟩⟩⟩)))⟩; have n1_ : Aside0 (Kd.S k96 96 w38 w.heap.size (fun k_ => k_ ≠ gb118) u7 x7_5) := ⟨(by rw [hw]; exact (by (with_reducible repeat (first | apply Kd.S_alloc | apply Kd.S_drewN | apply Kd.S_drew)); exact Kd.S_mono (Kd.S_far (p := ⟨gb118, 1, none⟩) (Kd.S_far (p := ⟨gb118, 0, none⟩) (Kd.S_mono HO_7.out (fun k_ hk => (⟨hk, hk.2⟩ : _ ∧ k_ ≠ gb118))) (fun _ hk => hk.2) (.int .i64 ((rd_T96 (rd_L5 ((rd_T92 l0 x4_1).f1) x6_3) x8_5).f0))) (fun _ hk => hk.2) (.slice A117_1 ((rd_T96 (rd_L5 ((rd_T92 l0 x4_1).f1) x6_3) x8_5).f1).length c117_1)) (fun _ hk => hk.1.2)))⟩; have n2_ : Aside0 (Kd.R (Kd.slice 96 k96) 93 w38 w.heap.size (fun k_ => some k_ ≠ (u7 : Value).ownBlock ∧ k_ ≠ gb118) u106001 x106001_3) := ⟨(by rw [hw]; exact (by (with_reducible repeat (first | apply Kd.R_alloc | apply Kd.R_drewN | apply Kd.R_drew)); exact Kd.R_mono (Kd.R_far (p := ⟨gb118, 1, none⟩) (Kd.R_far (p := ⟨gb118, 0, none⟩) (Kd.R_mono HO_106001.out (fun k_ hk => (⟨hk, hk.2⟩ : _ ∧ k_ ≠ gb118))) (fun _ hk => hk.2) (.int .i64 ((rd_T96 (rd_L5 ((rd_T92 l0 x4_1).f1) x6_3) x8_5).f0))) (fun _ hk => hk.2) (.slice A117_1 ((rd_T96 (rd_L5 ((rd_T92 l0 x4_1).f1) x6_3) x8_5).f1).length c117_1)) (fun _ hk => ⟨hk.1.1, hk.1.2⟩)))⟩; have n3_ : Aside0 (w38.heap[gb105]? = some (.cells #[.bool ((rd_T92 l0 x4_1).f0), u106001] 92 (0, 0))) := ⟨(by rw [hw]; exact (by (with_reducible repeat (first | refine blk_drewN ?_ _ | refine blk_drew ?_ | refine blk_alloc ?_ _)); refine blk_far ?_ NB105_118.out _; (with_reducible repeat (first | refine blk_drewN ?_ _ | refine blk_drew ?_ | refine blk_alloc ?_ _)); refine blk_far ?_ NB105_118.out _; (with_reducible repeat (first | refine blk_drewN ?_ _ | refine blk_drew ?_ | refine blk_alloc ?_ _)); exact BK105.out))⟩; have n4_ : Aside0 (w38.heap[gb118]? = some (.cells #[.int .i64 ((rd_T96 (rd_L5 ((rd_T92 l0 x4_1).f1) x6_3) x8_5).f0), .slice A117_1 ((rd_T96 (rd_L5 ((rd_T92 l0 x4_1).f1) x6_3) x8_5).f1).length c117_1] 96 (0, 0))) := ⟨(by rw [hw]; exact (by (with_reducible repeat (first | refine blk_drewN ?_ _ | refine blk_drew ?_ | refine blk_alloc ?_ _)); refine blk_put (cs := #[.int .i64 ((rd_T96 (rd_L5 ((rd_T92 l0 x4_1).f1) x6_3) x8_5).f0), .slice none 0 0]) ?_ 1 _ rfl; (with_reducible repeat (first | refine blk_drewN ?_ _ | refine blk_drew ?_ | refine blk_alloc ?_ _)); refine blk_put (cs := #[.int .i64 0, .slice none 0 0]) ?_ 0 _ rfl; (with_reducible repeat (first | refine blk_drewN ?_ _ | refine blk_drew ?_ | refine blk_alloc ?_ _)); exact BK118.out))⟩; have n5_ : Aside0 (Below w.heap.size w w38) := ⟨(by rw [hw]; exact (by repeat (first | (with_reducible first | exact HB.out | apply below_alloc | apply pw_below_drewN | apply below_drew1 | refine below_set ?_ GE105.out | refine below_set ?_ GE118.out) | exact HB.out)))⟩; clear hw; clear HO_3; clear HO_7; clear HO_106001; clear BK105; clear BK118; clear HB; have HO_3 := n0_; have HO_7 := n1_; have HO_106001 := n2_; have BK105 := n3_; have BK118 := n4_; have HB := n5_; clear n0_ n1_ n2_ n3_ n4_ n5_; have hcz39_0 : w38.cell? ⟨gb118, 0, none⟩ = some (.int .i64 ((rd_T96 (rd_L5 ((rd_T92 l0 x4_1).f1) x6_3) x8_5).f0)) := (blk_cell BK118.out 0).trans rfl; have hcz39_1 : w38.cell? ⟨gb118, 1, none⟩ = some (.slice A117_1 ((rd_T96 (rd_L5 ((rd_T92 l0 x4_1).f1) x6_3) x8_5).f1).length c117_1) := (blk_cell BK118.out 1).trans rfl; have hfz39_0 := blk_frozen BK118.out 0; have hfz39_1 := blk_frozen BK118.out 1; have q40 : (70 : Int) ≤ ((((rd_T96 (rd_L5 ((rd_T92 l0 x4_1).f1) x6_3) x8_5).f1).length : Int) : Int) := of_decide_eq_true (by first | (with_reducible assumption) | assumption); obtain ⟨i040, hi040, _, hsz40, _⟩ := info_parts info108; have hroom40 : ((rd_T96 (rd_L5 ((rd_T92 l0 x4_1).f1) x6_3) x8_5).f1).length ≤ c117_1 := HC117_1.out; have hC40 : Kd.C k108 _ A117_1 ((rd_T96 (rd_L5 ((rd_T92 l0 x4_1).f1) x6_3) x8_5).f1).length ((rd_T96 (rd_L5 ((rd_T92 l0 x4_1).f1) x6_3) x8_5).f1) := HR117_1.out; have hcut40 := cut_to (P := Tryd.prog) 94 108 .i64 Tryd.underlying94 hi040 A117_1 ((rd_T96 (rd_L5 ((rd_T92 l0 x4_1).f1) x6_3) x8_5).f1).length c117_1 70 (by omega) q40 hroom40; have hr40 := Kd.C_take (m := 70) hC40 (by omega); have hy40 : y119.length = (70 : Int).toNat := (by rw [Ny119.out, List.length_take]; omega); rw [← Ny119.out] at hr40; rw [← hy40] at hcut40; have HR122 := Aside0.mk hr40; have HC122 := Aside0.mk (show y119.length ≤ c117_1 from by omega); clear hr40 hC40 hroom40 hi040 hsz40; have KY40 := Aside0.mk hy40; clear hy40; replace q40 := eq_true q40))
                            have n0_ := Aside0.mk (Kd.R_drew HO_3.out)
                            have n1_ := Aside0.mk (Kd.S_drew HO_7.out)
                            have n2_ := Aside0.mk (Kd.R_drew HO_106001.out)
                            have n3_ := Aside0.mk (blk_drew BK105.out)
                            have n4_ := Aside0.mk (blk_drew BK118.out)
                            have n5_ := Aside0.mk (below_drew1 HB.out)
                            clear HO_3
                            clear HO_7
                            clear HO_106001
                            clear BK105
                            clear BK118
                            clear HB
                            have HO_3 := n0_
                            have HO_7 := n1_
                            have HO_106001 := n2_
                            have BK105 := n3_
                            have BK118 := n4_
                            have HB := n5_
                            clear n0_ n1_ n2_ n3_ n4_ n5_
                            refine start_ (n := 10) (S := fun w' => w'.cell? ⟨gb118, 0, none⟩ = some (.int .i64 ((rd_T96 (rd_L5 ((rd_T92 l0 x4_1).f1) x6_3) x8_5).f0)) ∧ w'.cell? ⟨gb118, 1, none⟩ = some (.slice A117_1 ((rd_T96 (rd_L5 ((rd_T92 l0 x4_1).f1) x6_3) x8_5).f1).length c117_1)) (ds := []) #[false, false, false, false, false, false, false, false, false, false] (by kernel_rfl) rfl rfl ⟨(blk_cell BK118.out 0).trans rfl, (blk_cell BK118.out 1).trans rfl⟩ (fun hHeld => ?_); refine with_tabW logjamlaw26_Own.tab17 logjamlaw26_Own.bits17 (fun HT_ HW_ => ?_)
                            generalize w38.drew = w41 at HO_3 HO_7 HO_106001 BK105 BK118 HB hHeld ⊢
                            refine pure_ (i := 0) (N := some 78) (v := ?_) (a' := ?_) #[true, false, false, false, false, false, false, false, false, false] rfl rfl (any_of HT_.out (by kernel_rfl)) (fun _ _ _ h => h) (Or.inl ⟨by rfl, ?_⟩) ?_ ?_
                            rotate_left
                            ·intro w'
                             go_simp
                             with_reducible rfl
                            rotate_left
                            ·simp only [Act.put, List.setIfInBounds_toArray, List.set_cons_zero, List.set_cons_succ, i64_w, i32_w]
                             rfl
                            refine pure_ (i := 1) (N := some 79) (v := ?_) (a' := ?_) #[true, true, false, false, false, false, false, false, false, false] rfl rfl (any_of HT_.out (by kernel_rfl)) (fun _ _ _ h => h) (Or.inl ⟨by rfl, ?_⟩) ?_ ?_
                            rotate_left
                            ·intro w'
                             go_simp
                             with_reducible rfl
                            rotate_left
                            ·simp only [Act.put, List.setIfInBounds_toArray, List.set_cons_zero, List.set_cons_succ, i64_w, i32_w]
                             rfl
                            refine pure_ (i := 4) (N := some 82) (v := ?_) (a' := ?_) #[true, true, false, false, true, false, false, false, false, false] rfl rfl (any_of HT_.out (by kernel_rfl)) (fun _ _ _ h => h) (Or.inl ⟨by rfl, ?_⟩) ?_ ?_
                            rotate_left
                            ·intro w'
                             go_simp
                             with_reducible rfl
                            rotate_left
                            ·simp only [Act.put, List.setIfInBounds_toArray, List.set_cons_zero, List.set_cons_succ, i64_w, i32_w]
                             rfl
                            refine take_ (i := 2) (N := some 80) (v := ?_) (a' := ?_) #[true, true, true, false, true, false, false, false, false, false] rfl rfl (take_ofW HT_.out HW_.out (by kernel_rfl)) (fun _ _ _ h => h) (Or.inl ⟨by rfl, ?_⟩) hHeld ?_ ?_
                            rotate_left
                            ·rintro w' ⟨s0, s1⟩
                             go_simp
                             with_reducible rfl
                            rotate_left
                            ·simp only [Act.put, List.setIfInBounds_toArray, List.set_cons_zero, List.set_cons_succ, i64_w, i32_w]
                             rfl
                            refine one_ (i := 3) (N := some 81) #[true, true, true, true, true, false, false, false, false, false] rfl rfl (one_of HT_.out (by kernel_rfl)) (by decide) (fun K hK => ?_)
                            refine Kd.R_lit_step k108 _ 108 ?hg (N := 81) ?hd (xs := ([] : List (S108))) (inner := []) (ok := fun _ => True) (okp := fun _ => True) ?hr ?hp (fun _ hk => hk) trivial (Below.refl _ _) (Nat.le_refl _) (by simp) ?_; (case hd => rfl); (case hg => rfl); (case hr => first | (go_simp; done) | (go_simp; rfl)); (case hp => exact (Reps.none _ _))
                            intro v124 w42 ho43 hb hg_ hnew_
                            clear hg_ hnew_
                            (first | rw [← Ny123.out] at ho43 | (simp only [Int.reduceToNat] at ho43; rw [← Ny123.out] at ho43))
                            have n0_ := Aside0.mk (Kd.R_elder' (by (with_reducible repeat (first | apply Kd.R_alloc | apply Kd.R_drewN | apply Kd.R_drew)); exact HO_3.out) (Kd.R_base ho43) hb)
                            have n1_ := Aside0.mk (Kd.S_elder' (by (with_reducible repeat (first | apply Kd.S_alloc | apply Kd.S_drewN | apply Kd.S_drew)); exact HO_7.out) (Kd.R_base ho43) hb)
                            have n2_ := Aside0.mk (Kd.R_elder' (by (with_reducible repeat (first | apply Kd.R_alloc | apply Kd.R_drewN | apply Kd.R_drew)); exact HO_106001.out) (Kd.R_base ho43) hb)
                            have n3_ := Aside0.mk (Kd.R_lower ho43 (below_size (by repeat (first | (with_reducible first | exact HB.out | apply below_alloc | apply pw_below_drewN | apply below_drew1 | refine below_set ?_ GE105.out | refine below_set ?_ GE118.out) | exact HB.out))))
                            have n4_ := Aside0.mk (blk_below (g := gb105) (o := .cells #[.bool ((rd_T92 l0 x4_1).f0), u106001] 92 (0, 0)) (by (with_reducible repeat (first | refine blk_drewN ?_ _ | refine blk_drew ?_ | refine blk_alloc ?_ _)); exact BK105.out) hb)
                            have n5_ := Aside0.mk (blk_below (g := gb118) (o := .cells #[.int .i64 ((rd_T96 (rd_L5 ((rd_T92 l0 x4_1).f1) x6_3) x8_5).f0), .slice A117_1 ((rd_T96 (rd_L5 ((rd_T92 l0 x4_1).f1) x6_3) x8_5).f1).length c117_1] 96 (0, 0)) (by (with_reducible repeat (first | refine blk_drewN ?_ _ | refine blk_drew ?_ | refine blk_alloc ?_ _)); exact BK118.out) hb)
                            have n6_ := Aside0.mk (below_step (by repeat (first | (with_reducible first | exact HB.out | apply below_alloc | apply pw_below_drewN | apply below_drew1 | refine below_set ?_ GE105.out | refine below_set ?_ GE118.out) | exact HB.out)) hb)
                            clear HO_3
                            clear HO_7
                            clear HO_106001
                            clear BK105
                            clear BK118
                            clear HB
                            have HO_3 := n0_
                            have HO_7 := n1_
                            have HO_106001 := n2_
                            have HO125 := n3_
                            have BK105 := n4_
                            have BK118 := n5_
                            have HB := n6_
                            clear n0_ n1_ n2_ n3_ n4_ n5_ n6_
                            clear hb ho43
                            refine hK.out _ _ ⟨(blk_cell BK118.out 0).trans rfl, (blk_cell BK118.out 1).trans rfl⟩ (fun hHeld => ?_)
                            clear hK K
                            refine norm_ (a' := ?_) ?_ ?_
                            rotate_left
                            ·show Act.put _ (some 81) _ = _
                             simp only [Act.put, List.setIfInBounds_toArray, List.set_cons_zero, List.set_cons_succ, i64_w, i32_w]
                             rfl
                            refine one_ (i := 5) (N := some 83) #[true, true, true, true, true, true, false, false, false, false] rfl rfl (one_of HT_.out (by kernel_rfl)) (by decide) (fun K hK => ?_)
                            refine Kd.R_append_rows_step k108 (w0 := w) w.heap.size (by rfl) (.tmp 81) (.tmp 82) 94 108 (.agg #[(.int .i64 0), (.int .i64 0)]) 16 rfl Tryd.underlying94 info108 rfl (by decide) (by omega) v124 y123 y119 _ _ _ (fun _ => True) (fun _ => False) rfl rfl ?aO ?aR (fun _ _ h => h) (fun _ h => h.elim) ?aF ?aB ?aS ?aL ?_
                            (case aR => repeat (first | exact (Kd.C_below HR122.out HB.out) | (with_reducible refine Kd.C_alloc ?_ _) | (with_reducible refine Kd.C_drewN ?_ _) | (with_reducible refine Kd.C_drew ?_)))
                            (case aB => exact (by repeat (first | (with_reducible first | exact HB.out | apply below_alloc | apply pw_below_drewN | apply below_drew1 | refine below_set ?_ GE105.out | refine below_set ?_ GE118.out) | exact HB.out)))
                            (case aF => exact (fun _ _ => trivial))
                            (case aO => exact (by (with_reducible repeat (first | apply Kd.R_alloc | apply Kd.R_drewN | apply Kd.R_drew)); exact HO125.out))
                            (case aS => exact (below_size (by repeat (first | (with_reducible first | exact HB.out | apply below_alloc | apply pw_below_drewN | apply below_drew1 | refine below_set ?_ GE105.out | refine below_set ?_ GE118.out) | exact HB.out))))
                            (case aL => have := LMc33.out; omega)
                            intro v127 w44 ho hb hg hat
                            rw [← Ny126.out] at ho
                            have n0_ := Aside0.mk (Kd.R_after (ok := (fun k_ => some k_ ≠ (u7 : Value).ownBlock ∧ some k_ ≠ (u106001 : Value).ownBlock ∧ k_ ≠ gb105 ∧ k_ ≠ gb118)) (by (with_reducible repeat (first | apply Kd.R_alloc | apply Kd.R_drewN | apply Kd.R_drew)); exact HO_3.out) hg hat)
                            have n1_ := Aside0.mk (Kd.S_after (ok := (fun k_ => k_ ≠ gb118)) (by (with_reducible repeat (first | apply Kd.S_alloc | apply Kd.S_drewN | apply Kd.S_drew)); exact HO_7.out) hg hat)
                            have n2_ := Aside0.mk (Kd.R_after (ok := (fun k_ => some k_ ≠ (u7 : Value).ownBlock ∧ k_ ≠ gb118)) (by (with_reducible repeat (first | apply Kd.R_alloc | apply Kd.R_drewN | apply Kd.R_drew)); exact HO_106001.out) hg hat)
                            have n3_ := Aside0.mk (blk_grown (g := gb105) (o := .cells #[.bool ((rd_T92 l0 x4_1).f0), u106001] 92 (0, 0)) (by (with_reducible repeat (first | refine blk_drewN ?_ _ | refine blk_drew ?_ | refine blk_alloc ?_ _)); exact BK105.out) hg (Kd.R_ne HO125.out BK105.out (by decide)))
                            have n4_ := Aside0.mk (blk_grown (g := gb118) (o := .cells #[.int .i64 ((rd_T96 (rd_L5 ((rd_T92 l0 x4_1).f1) x6_3) x8_5).f0), .slice A117_1 ((rd_T96 (rd_L5 ((rd_T92 l0 x4_1).f1) x6_3) x8_5).f1).length c117_1] 96 (0, 0)) (by (with_reducible repeat (first | refine blk_drewN ?_ _ | refine blk_drew ?_ | refine blk_alloc ?_ _)); exact BK118.out) hg (Kd.R_ne HO125.out BK118.out (by decide)))
                            have n5_ := Aside0.mk (hb)
                            have n6_ := Aside0.mk (ho)
                            clear HO_3
                            clear HO_7
                            clear HO_106001
                            clear BK105
                            clear BK118
                            clear HB
                            clear HO125
                            have HO_3 := n0_
                            have HO_7 := n1_
                            have HO_106001 := n2_
                            have BK105 := n3_
                            have BK118 := n4_
                            have HB := n5_
                            have HO128 := n6_
                            clear n0_ n1_ n2_ n3_ n4_ n5_ n6_
                            clear ho hb hg hat
                            obtain ⟨Ao45, co45, eo45⟩ := Kd.R_slice HO128.out
                            (first | subst eo45 | (injection eo45 with f1_ f2_ f3_; have f4_ := f1_.symm; have f5_ := f3_.symm; clear f1_ f2_ f3_; subst f4_; subst f5_))
                            refine hK.out _ _ ⟨(blk_cell BK118.out 0).trans rfl, (blk_cell BK118.out 1).trans rfl⟩ (fun hHeld => ?_)
                            clear hK K
                            refine norm_ (a' := ?_) ?_ ?_
                            rotate_left
                            ·show Act.put _ (some 83) _ = _
                             simp only [Act.put, List.setIfInBounds_toArray, List.set_cons_zero, List.set_cons_succ, i64_w, i32_w]
                             rfl
                            refine pure_ (i := 6) (N := some 84) (v := ?_) (a' := ?_) #[true, true, true, true, true, true, true, false, false, false] rfl rfl (any_of HT_.out (by kernel_rfl)) (fun _ _ _ h => h) (Or.inl ⟨by rfl, ?_⟩) ?_ ?_
                            rotate_left
                            ·intro w'
                             go_simp
                             with_reducible rfl
                            rotate_left
                            ·simp only [Act.put, List.setIfInBounds_toArray, List.set_cons_zero, List.set_cons_succ, i64_w, i32_w]
                             rfl
                            refine one_ (i := 7) (N := some 85) #[true, true, true, true, true, true, true, true, false, false] rfl rfl (one_of HT_.out (by kernel_rfl)) (by decide) (fun K hK => ?_)
                            refine value_ (w1 := ?_) (v := ?_) (by rfl) rfl ?_ ?_
                            rotate_left 2
                            ·go_simp
                             constructor
                             ·rfl
                             ·rfl
                            refine hK.out _ _ ⟨(blk_cell (blk_alloc BK118.out _) 0).trans rfl, (blk_cell (blk_alloc BK118.out _) 1).trans rfl⟩ (fun hHeld => ?_)
                            clear hK K
                            refine norm_ (a' := ?_) ?_ ?_
                            rotate_left
                            ·show Act.put _ (some 85) _ = _
                             simp only [Act.put, List.setIfInBounds_toArray, List.set_cons_zero, List.set_cons_succ, i64_w, i32_w]
                             rfl
                            refine one_ (i := 8) (N := some 86) #[true, true, true, true, true, true, true, true, true, false] rfl rfl (one_of HT_.out (by kernel_rfl)) (by decide) (fun K hK => ?_)
                            refine Kd.S_append_step k96 (w0 := w) w.heap.size (by rfl) (.tmp 78) (.tmp 85) 93 96 (.agg #[(.int .i64 0), (.slice none 0 0)]) 32 rfl Tryd.underlying93 info96 rfl (by decide) (by omega) u7 x7_5 (⟨(rd_T96 (rd_L5 ((rd_T92 l0 x4_1).f1) x6_3) x8_5).f0, y126⟩ : S96) [.int .i64 ((rd_T96 (rd_L5 ((rd_T92 l0 x4_1).f1) x6_3) x8_5).f0), .slice Ao45 y126.length co45] (fun k_ => k_ ≠ gb118) (fun k_ => some k_ = (.slice Ao45 y126.length co45 : Value).ownBlock) rfl rfl ?aP (fun k_ hk_ => ((Kd.R_mono (ok' := fun k_ => ((fun k_ => k_ ≠ gb118)) k_ ∧ some k_ ≠ (u7 : Value).ownBlock) (Kd.R_types (Kd.R_apart' (HO128.out) (Kd.S_typed HO_7.out) (by decide)) BK118.out (by decide)) (fun k_ hk => ⟨hk.2, hk.1.2⟩))).1 k_ hk_.symm) ?aF ?aO ?aB ?aS ?aL ?_
                            (case aP => exact k96_mkM _ _ _ (⟨(rd_T96 (rd_L5 ((rd_T92 l0 x4_1).f1) x6_3) x8_5).f0, y126⟩ : S96) (Kd.R_mono (Kd.R_tight rfl (Kd.R_mono (ok' := fun k_ => ((fun k_ => k_ ≠ gb118)) k_ ∧ some k_ ≠ (u7 : Value).ownBlock) (Kd.R_types (Kd.R_apart' (HO128.out) (Kd.S_typed HO_7.out) (by decide)) BK118.out (by decide)) (fun k_ hk => ⟨hk.2, hk.1.2⟩))) (fun _ h_ => h_)))
                            (case aB => exact (by repeat (first | (with_reducible first | exact HB.out | apply below_alloc | apply pw_below_drewN | apply below_drew1 | refine below_set ?_ GE105.out | refine below_set ?_ GE118.out) | exact HB.out)))
                            (case aF => exact (fun k_ hk => Kd.freshB (g := gb118) (o := .cells #[.int .i64 ((rd_T96 (rd_L5 ((rd_T92 l0 x4_1).f1) x6_3) x8_5).f0), .slice A117_1 ((rd_T96 (rd_L5 ((rd_T92 l0 x4_1).f1) x6_3) x8_5).f1).length c117_1] 96 (0, 0)) (by (with_reducible repeat (first | refine blk_drewN ?_ _ | refine blk_drew ?_ | refine blk_alloc ?_ _)); exact BK118.out) k_ hk))
                            (case aO => exact (by (with_reducible repeat (first | apply Kd.S_alloc | apply Kd.S_drewN | apply Kd.S_drew)); exact Kd.S_mono HO_7.out (fun k_ hk => ⟨hk.1, fun e_ => hk.2 e_⟩)))
                            (case aS => exact (below_size (by repeat (first | (with_reducible first | exact HB.out | apply below_alloc | apply pw_below_drewN | apply below_drew1 | refine below_set ?_ GE105.out | refine below_set ?_ GE118.out) | exact HB.out))))
                            (case aL => have := LMc34.out; omega)
                            intro v130 w46 ho hb hg hat
                            rw [← Ny129.out] at ho
                            have n0_ := Aside0.mk (Kd.R_after (ok := (fun k_ => some k_ ≠ (u106001 : Value).ownBlock ∧ some k_ ≠ (.slice Ao45 y126.length co45 : Value).ownBlock ∧ k_ ≠ gb105 ∧ k_ ≠ gb118)) (by (with_reducible repeat (first | apply Kd.R_alloc | apply Kd.R_drewN | apply Kd.R_drew)); exact Kd.R_mono HO_3.out (fun _ hk => ⟨⟨hk.1.2.1, ⟨hk.2, ⟨hk.1.2.2.1, hk.1.2.2.2⟩⟩⟩, hk.1.1⟩)) hg hat)
                            have n1_ := Aside0.mk (Kd.R_after (ok := (fun k_ => some k_ ≠ (.slice Ao45 y126.length co45 : Value).ownBlock ∧ k_ ≠ gb118)) (by (with_reducible repeat (first | apply Kd.R_alloc | apply Kd.R_drewN | apply Kd.R_drew)); exact Kd.R_mono HO_106001.out (fun _ hk => ⟨⟨hk.2, hk.1.2⟩, hk.1.1⟩)) hg hat)
                            have n2_ := Aside0.mk (blk_grown (g := gb105) (o := .cells #[.bool ((rd_T92 l0 x4_1).f0), u106001] 92 (0, 0)) (by (with_reducible repeat (first | refine blk_drewN ?_ _ | refine blk_drew ?_ | refine blk_alloc ?_ _)); exact BK105.out) hg (Kd.S_ne HO_7.out BK105.out (by decide)))
                            have n3_ := Aside0.mk (blk_grown (g := gb118) (o := .cells #[.int .i64 ((rd_T96 (rd_L5 ((rd_T92 l0 x4_1).f1) x6_3) x8_5).f0), .slice A117_1 ((rd_T96 (rd_L5 ((rd_T92 l0 x4_1).f1) x6_3) x8_5).f1).length c117_1] 96 (0, 0)) (by (with_reducible repeat (first | refine blk_drewN ?_ _ | refine blk_drew ?_ | refine blk_alloc ?_ _)); exact BK118.out) hg (Kd.S_away HO_7.out (fun _ hk => hk.1)))
                            have n4_ := Aside0.mk (hb)
                            have n5_ := Aside0.mk (ho)
                            clear HO_3
                            clear HO_106001
                            clear BK105
                            clear BK118
                            clear HB
                            clear HO_7
                            clear HO128
                            have HO_3 := n0_
                            have HO_106001 := n1_
                            have BK105 := n2_
                            have BK118 := n3_
                            have HB := n4_
                            have HO131 := n5_
                            clear n0_ n1_ n2_ n3_ n4_ n5_
                            clear ho hb hg hat
                            refine hK.out _ _ ⟨(blk_cell BK118.out 0).trans rfl, (blk_cell BK118.out 1).trans rfl⟩ (fun hHeld => ?_)
                            clear hK K
                            refine norm_ (a' := ?_) ?_ ?_
                            rotate_left
                            ·show Act.put _ (some 86) _ = _
                             simp only [Act.put, List.setIfInBounds_toArray, List.set_cons_zero, List.set_cons_succ, i64_w, i32_w]
                             rfl
                            refine pure_ (i := 9) (N := some 7) (v := ?_) (a' := ?_) #[true, true, true, true, true, true, true, true, true, true] rfl rfl (any_of HT_.out (by kernel_rfl)) (fun _ _ _ h => h) (Or.inl ⟨by rfl, ?_⟩) ?_ ?_
                            rotate_left
                            ·intro w'
                             go_simp
                             with_reducible rfl
                            rotate_left
                            ·simp only [Act.put, List.setIfInBounds_toArray, List.set_cons_zero, List.set_cons_succ, i64_w, i32_w]
                             rfl
                            refine done_ (done_of HT_.out (by kernel_rfl)) ?_
                            try go_wp2
                            go_roundg kj17
                            case measure => have := HK1.out; have := HJ3.out; have := HK3.out; have := HJ10.out; have := HK5.out; have := HJ17.out; omega
                            case rel => exact ⟨(y129), (wrap64 (x8_5 + 1)), (by first | rfl | (simp; done) | (simp [*]; done)), H', ⟨by have := HK1.out; have := HJ3.out; have := HK3.out; have := HJ10.out; have := HK5.out; have := HJ17.out; omega⟩, ⟨by (with_reducible repeat (first | apply Kd.R_alloc | apply Kd.R_drewN | apply Kd.R_drew)); exact Kd.R_mono HO_3.out (fun _ hk => ⟨hk.2, ⟨hk.1.1, hk.1.2.2.1⟩⟩)⟩, ⟨by (with_reducible repeat (first | apply Kd.S_alloc | apply Kd.S_drewN | apply Kd.S_drew)); exact Kd.S_mono HO131.out (fun _ hk => trivial)⟩, ⟨by (with_reducible repeat (first | apply Kd.R_alloc | apply Kd.R_drewN | apply Kd.R_drew)); exact Kd.R_mono HO_106001.out (fun _ hk => hk.2)⟩, ⟨by (with_reducible repeat (first | refine blk_drewN ?_ _ | refine blk_drew ?_ | refine blk_alloc ?_ _)); exact BK105.out⟩, ⟨by repeat (first | (with_reducible first | exact HB.out | apply below_alloc | apply pw_below_drewN | apply below_drew1 | refine below_set ?_ GE105.out | refine below_set ?_ GE118.out) | exact HB.out)⟩⟩
                           ·rw [if_neg c34] at H
                            exact absurd H (by simp)
                          ·rw [if_neg c33] at H
                           exact absurd H (by simp)
                         ·rw [if_neg c32] at H
                          exact absurd H (by simp)
                        ·rw [if_neg c31] at H
                         have c31b0 : decide (70 < (((rd_T96 (rd_L5 ((rd_T92 l0 x4_1).f1) x6_3) x8_5).f1).length : Int)) = false := decide_eq_false c31
                         have c31b1 : decide (70 < ((rd_T96 (rd_L5 ((rd_T92 l0 x4_1).f1) x6_3) x8_5).f1).length) = false := decide_eq_false (by omega)
                         clear c31
                         obtain ⟨y132, hy132⟩ : ∃ y_ : List (S108), y_ = (([] : List (S108))) := ⟨_, rfl⟩
                         replace H : (if y132.length + ((rd_T96 (rd_L5 ((rd_T92 l0 x4_1).f1) x6_3) x8_5).f1).length < 8796093022208 then (if x7_5.length < 4398046511104 then (logjamlaw26_Own.l2 kj17 l0 x3_1 x4_1 x6_3 (x7_5 ++ [(⟨(rd_T96 (rd_L5 ((rd_T92 l0 x4_1).f1) x6_3) x8_5).f0, (y132 ++ ((rd_T96 (rd_L5 ((rd_T92 l0 x4_1).f1) x6_3) x8_5).f1))⟩ : S96)]) (wrap64 (x8_5 + 1)) ((rd_T92 l0 x4_1).f0) x106001_3) else (none)) else (none)) = some r := by first | (rw [hy132]; with_reducible exact H) | (have H2_ := (Option.bind_some _ _).symm.trans H; rw [hy132]; with_reducible exact H2_) | (have H2_ := (Option.bind_some _ _).symm.trans H; with_reducible exact H2_) | with_reducible exact H | (rw [hy132]; exact H) | exact H
                         have Ny132 := Aside0.mk hy132
                         clear hy132
                         by_cases c47 : y132.length + ((rd_T96 (rd_L5 ((rd_T92 l0 x4_1).f1) x6_3) x8_5).f1).length < 8796093022208
                         ·rw [if_pos c47] at H
                          have LMc47 := Aside0.mk c47
                          clear c47
                          obtain ⟨y135, hy135⟩ : ∃ y_ : List (S108), y_ = (y132 ++ ((rd_T96 (rd_L5 ((rd_T92 l0 x4_1).f1) x6_3) x8_5).f1)) := ⟨_, rfl⟩
                          replace H : (if x7_5.length < 4398046511104 then (logjamlaw26_Own.l2 kj17 l0 x3_1 x4_1 x6_3 (x7_5 ++ [(⟨(rd_T96 (rd_L5 ((rd_T92 l0 x4_1).f1) x6_3) x8_5).f0, y135⟩ : S96)]) (wrap64 (x8_5 + 1)) ((rd_T92 l0 x4_1).f0) x106001_3) else (none)) = some r := by first | (rw [hy135]; with_reducible exact H) | (have H2_ := (Option.bind_some _ _).symm.trans H; rw [hy135]; with_reducible exact H2_) | (have H2_ := (Option.bind_some _ _).symm.trans H; with_reducible exact H2_) | with_reducible exact H | (rw [hy135]; exact H) | exact H
                          have Ny135 := Aside0.mk hy135
                          clear hy135
                          by_cases c48 : x7_5.length < 4398046511104
                          ·rw [if_pos c48] at H
                           have LMc48 := Aside0.mk c48
                           clear c48
                           obtain ⟨y138, hy138⟩ : ∃ y_ : List (S96), y_ = (x7_5 ++ [(⟨(rd_T96 (rd_L5 ((rd_T92 l0 x4_1).f1) x6_3) x8_5).f0, y135⟩ : S96)]) := ⟨_, rfl⟩
                           replace H : (logjamlaw26_Own.l2 kj17 l0 x3_1 x4_1 x6_3 y138 (wrap64 (x8_5 + 1)) ((rd_T92 l0 x4_1).f0) x106001_3) = some r := by first | (rw [hy138]; with_reducible exact H) | (have H2_ := (Option.bind_some _ _).symm.trans H; rw [hy138]; with_reducible exact H2_) | (have H2_ := (Option.bind_some _ _).symm.trans H; with_reducible exact H2_) | with_reducible exact H | (rw [hy138]; exact H) | exact H
                           have Ny138 := Aside0.mk hy138
                           clear hy138
                           have H' := Aside0.mk H
                           clear H
                           have p115 : 0 ≤ (x4_1 : Int) := of_decide_eq_true (by first | (with_reducible assumption) | assumption)
                           have q115 : x4_1 < (l0.length : Int) := of_decide_eq_true (by first | (with_reducible assumption) | assumption)
                           obtain ⟨ad115, A115_1, c115_1, e115, hx115_0, hx115_1, hl115_1, hi115_1⟩ := at_T92 HR0.out x4_1 p115 q115
                           obtain rfl : ad104 = ad115 := (by injection e115)
                           replace hx115_0 := (HB.out.cell (World.block_lt_of_cell? w _ hx115_0)).trans hx115_0
                           replace hx115_1 := (HB.out.cell (World.block_lt_of_cell? w _ hx115_1)).trans hx115_1
                           have HR115_1 := Aside0.mk hi115_1
                           have HC115_1 := Aside0.mk hl115_1
                           clear hi115_1 hl115_1
                           replace p115 := eq_true p115
                           replace q115 := eq_true q115
                           have p116 : 0 ≤ (x6_3 : Int) := of_decide_eq_true (by first | (with_reducible assumption) | assumption)
                           have q116 : x6_3 < (((rd_T92 l0 x4_1).f1).length : Int) := of_decide_eq_true (by first | (with_reducible assumption) | assumption)
                           obtain ⟨ad116, A116_0, c116_0, e116, hx116_0, hl116_0, hi116_0⟩ := at_L5 HR115_1.out x6_3 p116 q116
                           cases e116
                           replace hx116_0 := (HB.out.cell (World.block_lt_of_cell? w _ hx116_0)).trans hx116_0
                           have HR116_0 := Aside0.mk hi116_0
                           have HC116_0 := Aside0.mk hl116_0
                           clear hi116_0 hl116_0
                           replace p116 := eq_true p116
                           replace q116 := eq_true q116
                           have p117 : 0 ≤ (x8_5 : Int) := of_decide_eq_true (by first | (with_reducible assumption) | assumption)
                           have q117 : x8_5 < ((rd_L5 ((rd_T92 l0 x4_1).f1) x6_3).length : Int) := of_decide_eq_true (by first | (with_reducible assumption) | assumption)
                           obtain ⟨ad117, A117_1, c117_1, e117, hx117_0, hx117_1, hl117_1, hi117_1⟩ := at_T96 HR116_0.out x8_5 p117 q117
                           cases e117
                           replace hx117_0 := (HB.out.cell (World.block_lt_of_cell? w _ hx117_0)).trans hx117_0
                           replace hx117_1 := (HB.out.cell (World.block_lt_of_cell? w _ hx117_1)).trans hx117_1
                           have HR117_1 := Aside0.mk hi117_1
                           have HC117_1 := Aside0.mk hl117_1
                           clear hi117_1 hl117_1
                           replace p117 := eq_true p117
                           replace q117 := eq_true q117
                           try go_wp2_with (first | ((with_reducible refine gate_dst (N := 9) rfl ?_); refine box_event ?hg (N := 9) ?hd (cs := #[.int .i64 0, .slice none 0 0]) (t := 96) ?hr ?_; (case hd => rfl); (case hg => rfl); (case hr => first | (go_simp; done) | (go_simp; rfl)); intro gb118 hg w49 hbox hb; have n0_ := Aside0.mk (Kd.R_below (Kd.R_elderB (by (with_reducible repeat (first | apply Kd.R_alloc | apply Kd.R_drewN | apply Kd.R_drew)); exact HO_3.out) gb118 (Nat.le_of_eq hg.symm)) hb); have n1_ := Aside0.mk (Kd.S_below (Kd.S_elderB (by (with_reducible repeat (first | apply Kd.S_alloc | apply Kd.S_drewN | apply Kd.S_drew)); exact HO_7.out) gb118 (Nat.le_of_eq hg.symm)) hb); have n2_ := Aside0.mk (Kd.R_below (Kd.R_elderB (by (with_reducible repeat (first | apply Kd.R_alloc | apply Kd.R_drewN | apply Kd.R_drew)); exact HO_106001.out) gb118 (Nat.le_of_eq hg.symm)) hb); have n3_ := Aside0.mk (blk_below (g := gb105) (o := .cells #[.bool ((rd_T92 l0 x4_1).f0), u106001] 92 (0, 0)) (by (with_reducible repeat (first | refine blk_drewN ?_ _ | refine blk_drew ?_ | refine blk_alloc ?_ _)); exact BK105.out) hb); have n4_ := Aside0.mk (below_step (by repeat (first | (with_reducible first | exact HB.out | apply below_alloc | apply pw_below_drewN | apply below_drew1 | refine below_set ?_ GE105.out) | exact HB.out)) hb); have n5_ := Aside0.mk (hbox); have n6_ := Aside0.mk ((by rw [hg]; exact (below_size (by repeat (first | (with_reducible first | exact HB.out | apply below_alloc | apply pw_below_drewN | apply below_drew1 | refine below_set ?_ GE105.out) | exact HB.out))) : w.heap.size ≤ gb118)); have n7_ := Aside0.mk ((by rw [hg]; exact (below_size (by repeat (first | (with_reducible first | exact HB.out | apply below_alloc | apply pw_below_drewN | apply below_drew1 | refine below_set ?_ GE105.out) | exact HB.out))) : w.heap.size ≤ gb118)); have n8_ := Aside0.mk ((by rw [hg]; exact Nat.ne_of_lt (blk_lt (g := gb105) (o := .cells #[.bool ((rd_T92 l0 x4_1).f0), u106001] 92 (0, 0)) (by (with_reducible repeat (first | refine blk_drewN ?_ _ | refine blk_drew ?_ | refine blk_alloc ?_ _)); exact BK105.out)) : gb105 ≠ gb118)); have n9_ := Aside0.mk ((by rw [hg]; exact Nat.ne_of_gt (blk_lt (g := gb105) (o := .cells #[.bool ((rd_T92 l0 x4_1).f0), u106001] 92 (0, 0)) (by (with_reducible repeat (first | refine blk_drewN ?_ _ | refine blk_drew ?_ | refine blk_alloc ?_ _)); exact BK105.out)) : gb118 ≠ gb105)); clear HO_3; clear HO_7; clear HO_106001; clear BK105; clear HB; have HO_3 := n0_; have HO_7 := n1_; have HO_106001 := n2_; have BK105 := n3_; have HB := n4_; have BK118 := n5_; have GW118 := n6_; have GE118 := n7_; have NB105_118 := n8_; have NB118_105 := n9_; clear n0_ n1_ n2_ n3_ n4_ n5_ n6_ n7_ n8_ n9_; clear hb hbox hg; have hnb50 := NB118_105.out; have hnc50 := NB105_118.out; have hcz51_0 : w49.cell? ⟨gb118, 0, none⟩ = some (.int .i64 0) := (blk_cell BK118.out 0).trans rfl; have hcz51_1 : w49.cell? ⟨gb118, 1, none⟩ = some (.slice none 0 0) := (blk_cell BK118.out 1).trans rfl; have hfz51_0 := blk_frozen BK118.out 0; have hfz51_1 := blk_frozen BK118.out 1))
                           have n0_ : Aside0 (Kd.R k92 92 ((w49.setCell ⟨gb118, 0, none⟩ (.int .i64 ((rd_T96 (rd_L5 ((rd_T92 l0 x4_1).f1) x6_3) x8_5).f0))).setCell ⟨gb118, 1, none⟩ (.slice A117_1 ((rd_T96 (rd_L5 ((rd_T92 l0 x4_1).f1) x6_3) x8_5).f1).length c117_1)) w.heap.size (fun k_ => some k_ ≠ (u7 : Value).ownBlock ∧ some k_ ≠ (u106001 : Value).ownBlock ∧ k_ ≠ gb105 ∧ k_ ≠ gb118) u3 x3_1) := ⟨by (with_reducible repeat (first | apply Kd.R_alloc | apply Kd.R_drewN | apply Kd.R_drew)); exact Kd.R_mono (Kd.R_far (p := ⟨gb118, 1, none⟩) (Kd.R_far (p := ⟨gb118, 0, none⟩) (Kd.R_mono HO_3.out (fun k_ hk => (⟨hk, hk.2⟩ : _ ∧ k_ ≠ gb118))) (fun _ hk => hk.2) (.int .i64 ((rd_T96 (rd_L5 ((rd_T92 l0 x4_1).f1) x6_3) x8_5).f0))) (fun _ hk => hk.2) (.slice A117_1 ((rd_T96 (rd_L5 ((rd_T92 l0 x4_1).f1) x6_3) x8_5).f1).length c117_1)) (fun _ hk => ⟨hk.1.1.1, ⟨hk.1.1.2.1, ⟨hk.1.1.2.2, hk.1.2⟩⟩⟩)⟩
                           have n1_ : Aside0 (Kd.S k96 96 ((w49.setCell ⟨gb118, 0, none⟩ (.int .i64 ((rd_T96 (rd_L5 ((rd_T92 l0 x4_1).f1) x6_3) x8_5).f0))).setCell ⟨gb118, 1, none⟩ (.slice A117_1 ((rd_T96 (rd_L5 ((rd_T92 l0 x4_1).f1) x6_3) x8_5).f1).length c117_1)) w.heap.size (fun k_ => k_ ≠ gb118) u7 x7_5) := ⟨by (with_reducible repeat (first | apply Kd.S_alloc | apply Kd.S_drewN | apply Kd.S_drew)); exact Kd.S_mono (Kd.S_far (p := ⟨gb118, 1, none⟩) (Kd.S_far (p := ⟨gb118, 0, none⟩) (Kd.S_mono HO_7.out (fun k_ hk => (⟨hk, hk.2⟩ : _ ∧ k_ ≠ gb118))) (fun _ hk => hk.2) (.int .i64 ((rd_T96 (rd_L5 ((rd_T92 l0 x4_1).f1) x6_3) x8_5).f0))) (fun _ hk => hk.2) (.slice A117_1 ((rd_T96 (rd_L5 ((rd_T92 l0 x4_1).f1) x6_3) x8_5).f1).length c117_1)) (fun _ hk => hk.1.2)⟩
                           have n2_ : Aside0 (Kd.R (Kd.slice 96 k96) 93 ((w49.setCell ⟨gb118, 0, none⟩ (.int .i64 ((rd_T96 (rd_L5 ((rd_T92 l0 x4_1).f1) x6_3) x8_5).f0))).setCell ⟨gb118, 1, none⟩ (.slice A117_1 ((rd_T96 (rd_L5 ((rd_T92 l0 x4_1).f1) x6_3) x8_5).f1).length c117_1)) w.heap.size (fun k_ => some k_ ≠ (u7 : Value).ownBlock ∧ k_ ≠ gb118) u106001 x106001_3) := ⟨by (with_reducible repeat (first | apply Kd.R_alloc | apply Kd.R_drewN | apply Kd.R_drew)); exact Kd.R_mono (Kd.R_far (p := ⟨gb118, 1, none⟩) (Kd.R_far (p := ⟨gb118, 0, none⟩) (Kd.R_mono HO_106001.out (fun k_ hk => (⟨hk, hk.2⟩ : _ ∧ k_ ≠ gb118))) (fun _ hk => hk.2) (.int .i64 ((rd_T96 (rd_L5 ((rd_T92 l0 x4_1).f1) x6_3) x8_5).f0))) (fun _ hk => hk.2) (.slice A117_1 ((rd_T96 (rd_L5 ((rd_T92 l0 x4_1).f1) x6_3) x8_5).f1).length c117_1)) (fun _ hk => ⟨hk.1.1, hk.1.2⟩)⟩
                           have n3_ : Aside0 (((w49.setCell ⟨gb118, 0, none⟩ (.int .i64 ((rd_T96 (rd_L5 ((rd_T92 l0 x4_1).f1) x6_3) x8_5).f0))).setCell ⟨gb118, 1, none⟩ (.slice A117_1 ((rd_T96 (rd_L5 ((rd_T92 l0 x4_1).f1) x6_3) x8_5).f1).length c117_1)).heap[gb105]? = some (.cells #[.bool ((rd_T92 l0 x4_1).f0), u106001] 92 (0, 0))) := ⟨by (with_reducible repeat (first | refine blk_drewN ?_ _ | refine blk_drew ?_ | refine blk_alloc ?_ _)); refine blk_far ?_ NB105_118.out _; (with_reducible repeat (first | refine blk_drewN ?_ _ | refine blk_drew ?_ | refine blk_alloc ?_ _)); refine blk_far ?_ NB105_118.out _; (with_reducible repeat (first | refine blk_drewN ?_ _ | refine blk_drew ?_ | refine blk_alloc ?_ _)); exact BK105.out⟩
                           have n4_ : Aside0 (((w49.setCell ⟨gb118, 0, none⟩ (.int .i64 ((rd_T96 (rd_L5 ((rd_T92 l0 x4_1).f1) x6_3) x8_5).f0))).setCell ⟨gb118, 1, none⟩ (.slice A117_1 ((rd_T96 (rd_L5 ((rd_T92 l0 x4_1).f1) x6_3) x8_5).f1).length c117_1)).heap[gb118]? = some (.cells #[.int .i64 ((rd_T96 (rd_L5 ((rd_T92 l0 x4_1).f1) x6_3) x8_5).f0), .slice A117_1 ((rd_T96 (rd_L5 ((rd_T92 l0 x4_1).f1) x6_3) x8_5).f1).length c117_1] 96 (0, 0))) := ⟨by (with_reducible repeat (first | refine blk_drewN ?_ _ | refine blk_drew ?_ | refine blk_alloc ?_ _)); refine blk_put (cs := #[.int .i64 ((rd_T96 (rd_L5 ((rd_T92 l0 x4_1).f1) x6_3) x8_5).f0), .slice none 0 0]) ?_ 1 _ rfl; (with_reducible repeat (first | refine blk_drewN ?_ _ | refine blk_drew ?_ | refine blk_alloc ?_ _)); refine blk_put (cs := #[.int .i64 0, .slice none 0 0]) ?_ 0 _ rfl; (with_reducible repeat (first | refine blk_drewN ?_ _ | refine blk_drew ?_ | refine blk_alloc ?_ _)); exact BK118.out⟩
                           have n5_ : Aside0 (Below w.heap.size w ((w49.setCell ⟨gb118, 0, none⟩ (.int .i64 ((rd_T96 (rd_L5 ((rd_T92 l0 x4_1).f1) x6_3) x8_5).f0))).setCell ⟨gb118, 1, none⟩ (.slice A117_1 ((rd_T96 (rd_L5 ((rd_T92 l0 x4_1).f1) x6_3) x8_5).f1).length c117_1))) := ⟨by repeat (first | (with_reducible first | exact HB.out | apply below_alloc | apply pw_below_drewN | apply below_drew1 | refine below_set ?_ GE105.out | refine below_set ?_ GE118.out) | exact HB.out)⟩
                           (try clear HO_3)
                           (try clear HO_7)
                           (try clear HO_106001)
                           (try clear BK105)
                           (try clear BK118)
                           (try clear HB)
                           generalize ((w49.setCell ⟨gb118, 0, none⟩ (.int .i64 ((rd_T96 (rd_L5 ((rd_T92 l0 x4_1).f1) x6_3) x8_5).f0))).setCell ⟨gb118, 1, none⟩ (.slice A117_1 ((rd_T96 (rd_L5 ((rd_T92 l0 x4_1).f1) x6_3) x8_5).f1).length c117_1)) = w52 at n0_ n1_ n2_ n3_ n4_ n5_ ⊢
                           have HO_3 := n0_
                           have HO_7 := n1_
                           have HO_106001 := n2_
                           have BK105 := n3_
                           have BK118 := n4_
                           have HB := n5_
                           clear n0_ n1_ n2_ n3_ n4_ n5_
                           have n0_ := Aside0.mk (Kd.R_drew HO_3.out)
                           have n1_ := Aside0.mk (Kd.S_drew HO_7.out)
                           have n2_ := Aside0.mk (Kd.R_drew HO_106001.out)
                           have n3_ := Aside0.mk (blk_drew BK105.out)
                           have n4_ := Aside0.mk (blk_drew BK118.out)
                           have n5_ := Aside0.mk (below_drew1 HB.out)
                           clear HO_3
                           clear HO_7
                           clear HO_106001
                           clear BK105
                           clear BK118
                           clear HB
                           have HO_3 := n0_
                           have HO_7 := n1_
                           have HO_106001 := n2_
                           have BK105 := n3_
                           have BK118 := n4_
                           have HB := n5_
                           clear n0_ n1_ n2_ n3_ n4_ n5_
                           refine start_ (n := 10) (S := fun w' => w'.cell? ⟨gb118, 0, none⟩ = some (.int .i64 ((rd_T96 (rd_L5 ((rd_T92 l0 x4_1).f1) x6_3) x8_5).f0)) ∧ w'.cell? ⟨gb118, 1, none⟩ = some (.slice A117_1 ((rd_T96 (rd_L5 ((rd_T92 l0 x4_1).f1) x6_3) x8_5).f1).length c117_1)) (ds := []) #[false, false, false, false, false, false, false, false, false, false] (by kernel_rfl) rfl rfl ⟨(blk_cell BK118.out 0).trans rfl, (blk_cell BK118.out 1).trans rfl⟩ (fun hHeld => ?_); refine with_tabW logjamlaw26_Own.tab17 logjamlaw26_Own.bits17 (fun HT_ HW_ => ?_)
                           generalize w52.drew = w53 at HO_3 HO_7 HO_106001 BK105 BK118 HB hHeld ⊢
                           refine pure_ (i := 0) (N := some 78) (v := ?_) (a' := ?_) #[true, false, false, false, false, false, false, false, false, false] rfl rfl (any_of HT_.out (by kernel_rfl)) (fun _ _ _ h => h) (Or.inl ⟨by rfl, ?_⟩) ?_ ?_
                           rotate_left
                           ·intro w'
                            go_simp
                            with_reducible rfl
                           rotate_left
                           ·simp only [Act.put, List.setIfInBounds_toArray, List.set_cons_zero, List.set_cons_succ, i64_w, i32_w]
                            rfl
                           refine pure_ (i := 1) (N := some 79) (v := ?_) (a' := ?_) #[true, true, false, false, false, false, false, false, false, false] rfl rfl (any_of HT_.out (by kernel_rfl)) (fun _ _ _ h => h) (Or.inl ⟨by rfl, ?_⟩) ?_ ?_
                           rotate_left
                           ·intro w'
                            go_simp
                            with_reducible rfl
                           rotate_left
                           ·simp only [Act.put, List.setIfInBounds_toArray, List.set_cons_zero, List.set_cons_succ, i64_w, i32_w]
                            rfl
                           refine pure_ (i := 4) (N := some 82) (v := ?_) (a' := ?_) #[true, true, false, false, true, false, false, false, false, false] rfl rfl (any_of HT_.out (by kernel_rfl)) (fun _ _ _ h => h) (Or.inl ⟨by rfl, ?_⟩) ?_ ?_
                           rotate_left
                           ·intro w'
                            go_simp
                            with_reducible rfl
                           rotate_left
                           ·simp only [Act.put, List.setIfInBounds_toArray, List.set_cons_zero, List.set_cons_succ, i64_w, i32_w]
                            rfl
                           refine take_ (i := 2) (N := some 80) (v := ?_) (a' := ?_) #[true, true, true, false, true, false, false, false, false, false] rfl rfl (take_ofW HT_.out HW_.out (by kernel_rfl)) (fun _ _ _ h => h) (Or.inl ⟨by rfl, ?_⟩) hHeld ?_ ?_
                           rotate_left
                           ·rintro w' ⟨s0, s1⟩
                            go_simp
                            with_reducible rfl
                           rotate_left
                           ·simp only [Act.put, List.setIfInBounds_toArray, List.set_cons_zero, List.set_cons_succ, i64_w, i32_w]
                            rfl
                           refine one_ (i := 3) (N := some 81) #[true, true, true, true, true, false, false, false, false, false] rfl rfl (one_of HT_.out (by kernel_rfl)) (by decide) (fun K hK => ?_)
                           refine Kd.R_lit_step k108 _ 108 ?hg (N := 81) ?hd (xs := ([] : List (S108))) (inner := []) (ok := fun _ => True) (okp := fun _ => True) ?hr ?hp (fun _ hk => hk) trivial (Below.refl _ _) (Nat.le_refl _) (by simp) ?_; (case hd => rfl); (case hg => rfl); (case hr => first | (go_simp; done) | (go_simp; rfl)); (case hp => exact (Reps.none _ _))
                           intro v133 w54 ho55 hb hg_ hnew_
                           clear hg_ hnew_
                           (first | rw [← Ny132.out] at ho55 | (simp only [Int.reduceToNat] at ho55; rw [← Ny132.out] at ho55))
                           have n0_ := Aside0.mk (Kd.R_elder' (by (with_reducible repeat (first | apply Kd.R_alloc | apply Kd.R_drewN | apply Kd.R_drew)); exact HO_3.out) (Kd.R_base ho55) hb)
                           have n1_ := Aside0.mk (Kd.S_elder' (by (with_reducible repeat (first | apply Kd.S_alloc | apply Kd.S_drewN | apply Kd.S_drew)); exact HO_7.out) (Kd.R_base ho55) hb)
                           have n2_ := Aside0.mk (Kd.R_elder' (by (with_reducible repeat (first | apply Kd.R_alloc | apply Kd.R_drewN | apply Kd.R_drew)); exact HO_106001.out) (Kd.R_base ho55) hb)
                           have n3_ := Aside0.mk (Kd.R_lower ho55 (below_size (by repeat (first | (with_reducible first | exact HB.out | apply below_alloc | apply pw_below_drewN | apply below_drew1 | refine below_set ?_ GE105.out | refine below_set ?_ GE118.out) | exact HB.out))))
                           have n4_ := Aside0.mk (blk_below (g := gb105) (o := .cells #[.bool ((rd_T92 l0 x4_1).f0), u106001] 92 (0, 0)) (by (with_reducible repeat (first | refine blk_drewN ?_ _ | refine blk_drew ?_ | refine blk_alloc ?_ _)); exact BK105.out) hb)
                           have n5_ := Aside0.mk (blk_below (g := gb118) (o := .cells #[.int .i64 ((rd_T96 (rd_L5 ((rd_T92 l0 x4_1).f1) x6_3) x8_5).f0), .slice A117_1 ((rd_T96 (rd_L5 ((rd_T92 l0 x4_1).f1) x6_3) x8_5).f1).length c117_1] 96 (0, 0)) (by (with_reducible repeat (first | refine blk_drewN ?_ _ | refine blk_drew ?_ | refine blk_alloc ?_ _)); exact BK118.out) hb)
                           have n6_ := Aside0.mk (below_step (by repeat (first | (with_reducible first | exact HB.out | apply below_alloc | apply pw_below_drewN | apply below_drew1 | refine below_set ?_ GE105.out | refine below_set ?_ GE118.out) | exact HB.out)) hb)
                           clear HO_3
                           clear HO_7
                           clear HO_106001
                           clear BK105
                           clear BK118
                           clear HB
                           have HO_3 := n0_
                           have HO_7 := n1_
                           have HO_106001 := n2_
                           have HO134 := n3_
                           have BK105 := n4_
                           have BK118 := n5_
                           have HB := n6_
                           clear n0_ n1_ n2_ n3_ n4_ n5_ n6_
                           clear hb ho55
                           refine hK.out _ _ ⟨(blk_cell BK118.out 0).trans rfl, (blk_cell BK118.out 1).trans rfl⟩ (fun hHeld => ?_)
                           clear hK K
                           refine norm_ (a' := ?_) ?_ ?_
                           rotate_left
                           ·show Act.put _ (some 81) _ = _
                            simp only [Act.put, List.setIfInBounds_toArray, List.set_cons_zero, List.set_cons_succ, i64_w, i32_w]
                            rfl
                           refine one_ (i := 5) (N := some 83) #[true, true, true, true, true, true, false, false, false, false] rfl rfl (one_of HT_.out (by kernel_rfl)) (by decide) (fun K hK => ?_)
                           refine Kd.R_append_rows_step k108 (w0 := w) w.heap.size (by rfl) (.tmp 81) (.tmp 82) 94 108 (.agg #[(.int .i64 0), (.int .i64 0)]) 16 rfl Tryd.underlying94 info108 rfl (by decide) (by omega) v133 y132 ((rd_T96 (rd_L5 ((rd_T92 l0 x4_1).f1) x6_3) x8_5).f1) _ _ _ (fun _ => True) (fun _ => False) rfl rfl ?aO ?aR (fun _ _ h => h) (fun _ h => h.elim) ?aF ?aB ?aS ?aL ?_
                           (case aR => repeat (first | exact (Kd.C_below HR117_1.out HB.out) | (with_reducible refine Kd.C_alloc ?_ _) | (with_reducible refine Kd.C_drewN ?_ _) | (with_reducible refine Kd.C_drew ?_)))
                           (case aB => exact (by repeat (first | (with_reducible first | exact HB.out | apply below_alloc | apply pw_below_drewN | apply below_drew1 | refine below_set ?_ GE105.out | refine below_set ?_ GE118.out) | exact HB.out)))
                           (case aF => exact (fun _ _ => trivial))
                           (case aO => exact (by (with_reducible repeat (first | apply Kd.R_alloc | apply Kd.R_drewN | apply Kd.R_drew)); exact HO134.out))
                           (case aS => exact (below_size (by repeat (first | (with_reducible first | exact HB.out | apply below_alloc | apply pw_below_drewN | apply below_drew1 | refine below_set ?_ GE105.out | refine below_set ?_ GE118.out) | exact HB.out))))
                           (case aL => have := LMc47.out; omega)
                           intro v136 w56 ho hb hg hat
                           rw [← Ny135.out] at ho
                           have n0_ := Aside0.mk (Kd.R_after (ok := (fun k_ => some k_ ≠ (u7 : Value).ownBlock ∧ some k_ ≠ (u106001 : Value).ownBlock ∧ k_ ≠ gb105 ∧ k_ ≠ gb118)) (by (with_reducible repeat (first | apply Kd.R_alloc | apply Kd.R_drewN | apply Kd.R_drew)); exact HO_3.out) hg hat)
                           have n1_ := Aside0.mk (Kd.S_after (ok := (fun k_ => k_ ≠ gb118)) (by (with_reducible repeat (first | apply Kd.S_alloc | apply Kd.S_drewN | apply Kd.S_drew)); exact HO_7.out) hg hat)
                           have n2_ := Aside0.mk (Kd.R_after (ok := (fun k_ => some k_ ≠ (u7 : Value).ownBlock ∧ k_ ≠ gb118)) (by (with_reducible repeat (first | apply Kd.R_alloc | apply Kd.R_drewN | apply Kd.R_drew)); exact HO_106001.out) hg hat)
                           have n3_ := Aside0.mk (blk_grown (g := gb105) (o := .cells #[.bool ((rd_T92 l0 x4_1).f0), u106001] 92 (0, 0)) (by (with_reducible repeat (first | refine blk_drewN ?_ _ | refine blk_drew ?_ | refine blk_alloc ?_ _)); exact BK105.out) hg (Kd.R_ne HO134.out BK105.out (by decide)))
                           have n4_ := Aside0.mk (blk_grown (g := gb118) (o := .cells #[.int .i64 ((rd_T96 (rd_L5 ((rd_T92 l0 x4_1).f1) x6_3) x8_5).f0), .slice A117_1 ((rd_T96 (rd_L5 ((rd_T92 l0 x4_1).f1) x6_3) x8_5).f1).length c117_1] 96 (0, 0)) (by (with_reducible repeat (first | refine blk_drewN ?_ _ | refine blk_drew ?_ | refine blk_alloc ?_ _)); exact BK118.out) hg (Kd.R_ne HO134.out BK118.out (by decide)))
                           have n5_ := Aside0.mk (hb)
                           have n6_ := Aside0.mk (ho)
                           clear HO_3
                           clear HO_7
                           clear HO_106001
                           clear BK105
                           clear BK118
                           clear HB
                           clear HO134
                           have HO_3 := n0_
                           have HO_7 := n1_
                           have HO_106001 := n2_
                           have BK105 := n3_
                           have BK118 := n4_
                           have HB := n5_
                           have HO137 := n6_
                           clear n0_ n1_ n2_ n3_ n4_ n5_ n6_
                           clear ho hb hg hat
                           obtain ⟨Ao57, co57, eo57⟩ := Kd.R_slice HO137.out
                           (first | subst eo57 | (injection eo57 with f1_ f2_ f3_; have f4_ := f1_.symm; have f5_ := f3_.symm; clear f1_ f2_ f3_; subst f4_; subst f5_))
                           refine hK.out _ _ ⟨(blk_cell BK118.out 0).trans rfl, (blk_cell BK118.out 1).trans rfl⟩ (fun hHeld => ?_)
                           clear hK K
                           refine norm_ (a' := ?_) ?_ ?_
                           rotate_left
                           ·show Act.put _ (some 83) _ = _
                            simp only [Act.put, List.setIfInBounds_toArray, List.set_cons_zero, List.set_cons_succ, i64_w, i32_w]
                            rfl
                           refine pure_ (i := 6) (N := some 84) (v := ?_) (a' := ?_) #[true, true, true, true, true, true, true, false, false, false] rfl rfl (any_of HT_.out (by kernel_rfl)) (fun _ _ _ h => h) (Or.inl ⟨by rfl, ?_⟩) ?_ ?_
                           rotate_left
                           ·intro w'
                            go_simp
                            with_reducible rfl
                           rotate_left
                           ·simp only [Act.put, List.setIfInBounds_toArray, List.set_cons_zero, List.set_cons_succ, i64_w, i32_w]
                            rfl
                           refine one_ (i := 7) (N := some 85) #[true, true, true, true, true, true, true, true, false, false] rfl rfl (one_of HT_.out (by kernel_rfl)) (by decide) (fun K hK => ?_)
                           refine value_ (w1 := ?_) (v := ?_) (by rfl) rfl ?_ ?_
                           rotate_left 2
                           ·go_simp
                            constructor
                            ·rfl
                            ·rfl
                           refine hK.out _ _ ⟨(blk_cell (blk_alloc BK118.out _) 0).trans rfl, (blk_cell (blk_alloc BK118.out _) 1).trans rfl⟩ (fun hHeld => ?_)
                           clear hK K
                           refine norm_ (a' := ?_) ?_ ?_
                           rotate_left
                           ·show Act.put _ (some 85) _ = _
                            simp only [Act.put, List.setIfInBounds_toArray, List.set_cons_zero, List.set_cons_succ, i64_w, i32_w]
                            rfl
                           refine one_ (i := 8) (N := some 86) #[true, true, true, true, true, true, true, true, true, false] rfl rfl (one_of HT_.out (by kernel_rfl)) (by decide) (fun K hK => ?_)
                           refine Kd.S_append_step k96 (w0 := w) w.heap.size (by rfl) (.tmp 78) (.tmp 85) 93 96 (.agg #[(.int .i64 0), (.slice none 0 0)]) 32 rfl Tryd.underlying93 info96 rfl (by decide) (by omega) u7 x7_5 (⟨(rd_T96 (rd_L5 ((rd_T92 l0 x4_1).f1) x6_3) x8_5).f0, y135⟩ : S96) [.int .i64 ((rd_T96 (rd_L5 ((rd_T92 l0 x4_1).f1) x6_3) x8_5).f0), .slice Ao57 y135.length co57] (fun k_ => k_ ≠ gb118) (fun k_ => some k_ = (.slice Ao57 y135.length co57 : Value).ownBlock) rfl rfl ?aP (fun k_ hk_ => ((Kd.R_mono (ok' := fun k_ => ((fun k_ => k_ ≠ gb118)) k_ ∧ some k_ ≠ (u7 : Value).ownBlock) (Kd.R_types (Kd.R_apart' (HO137.out) (Kd.S_typed HO_7.out) (by decide)) BK118.out (by decide)) (fun k_ hk => ⟨hk.2, hk.1.2⟩))).1 k_ hk_.symm) ?aF ?aO ?aB ?aS ?aL ?_
                           (case aP => exact k96_mkM _ _ _ (⟨(rd_T96 (rd_L5 ((rd_T92 l0 x4_1).f1) x6_3) x8_5).f0, y135⟩ : S96) (Kd.R_mono (Kd.R_tight rfl (Kd.R_mono (ok' := fun k_ => ((fun k_ => k_ ≠ gb118)) k_ ∧ some k_ ≠ (u7 : Value).ownBlock) (Kd.R_types (Kd.R_apart' (HO137.out) (Kd.S_typed HO_7.out) (by decide)) BK118.out (by decide)) (fun k_ hk => ⟨hk.2, hk.1.2⟩))) (fun _ h_ => h_)))
                           (case aB => exact (by repeat (first | (with_reducible first | exact HB.out | apply below_alloc | apply pw_below_drewN | apply below_drew1 | refine below_set ?_ GE105.out | refine below_set ?_ GE118.out) | exact HB.out)))
                           (case aF => exact (fun k_ hk => Kd.freshB (g := gb118) (o := .cells #[.int .i64 ((rd_T96 (rd_L5 ((rd_T92 l0 x4_1).f1) x6_3) x8_5).f0), .slice A117_1 ((rd_T96 (rd_L5 ((rd_T92 l0 x4_1).f1) x6_3) x8_5).f1).length c117_1] 96 (0, 0)) (by (with_reducible repeat (first | refine blk_drewN ?_ _ | refine blk_drew ?_ | refine blk_alloc ?_ _)); exact BK118.out) k_ hk))
                           (case aO => exact (by (with_reducible repeat (first | apply Kd.S_alloc | apply Kd.S_drewN | apply Kd.S_drew)); exact Kd.S_mono HO_7.out (fun k_ hk => ⟨hk.1, fun e_ => hk.2 e_⟩)))
                           (case aS => exact (below_size (by repeat (first | (with_reducible first | exact HB.out | apply below_alloc | apply pw_below_drewN | apply below_drew1 | refine below_set ?_ GE105.out | refine below_set ?_ GE118.out) | exact HB.out))))
                           (case aL => have := LMc48.out; omega)
                           intro v139 w58 ho hb hg hat
                           rw [← Ny138.out] at ho
                           have n0_ := Aside0.mk (Kd.R_after (ok := (fun k_ => some k_ ≠ (u106001 : Value).ownBlock ∧ some k_ ≠ (.slice Ao57 y135.length co57 : Value).ownBlock ∧ k_ ≠ gb105 ∧ k_ ≠ gb118)) (by (with_reducible repeat (first | apply Kd.R_alloc | apply Kd.R_drewN | apply Kd.R_drew)); exact Kd.R_mono HO_3.out (fun _ hk => ⟨⟨hk.1.2.1, ⟨hk.2, ⟨hk.1.2.2.1, hk.1.2.2.2⟩⟩⟩, hk.1.1⟩)) hg hat)
                           have n1_ := Aside0.mk (Kd.R_after (ok := (fun k_ => some k_ ≠ (.slice Ao57 y135.length co57 : Value).ownBlock ∧ k_ ≠ gb118)) (by (with_reducible repeat (first | apply Kd.R_alloc | apply Kd.R_drewN | apply Kd.R_drew)); exact Kd.R_mono HO_106001.out (fun _ hk => ⟨⟨hk.2, hk.1.2⟩, hk.1.1⟩)) hg hat)
                           have n2_ := Aside0.mk (blk_grown (g := gb105) (o := .cells #[.bool ((rd_T92 l0 x4_1).f0), u106001] 92 (0, 0)) (by (with_reducible repeat (first | refine blk_drewN ?_ _ | refine blk_drew ?_ | refine blk_alloc ?_ _)); exact BK105.out) hg (Kd.S_ne HO_7.out BK105.out (by decide)))
                           have n3_ := Aside0.mk (blk_grown (g := gb118) (o := .cells #[.int .i64 ((rd_T96 (rd_L5 ((rd_T92 l0 x4_1).f1) x6_3) x8_5).f0), .slice A117_1 ((rd_T96 (rd_L5 ((rd_T92 l0 x4_1).f1) x6_3) x8_5).f1).length c117_1] 96 (0, 0)) (by (with_reducible repeat (first | refine blk_drewN ?_ _ | refine blk_drew ?_ | refine blk_alloc ?_ _)); exact BK118.out) hg (Kd.S_away HO_7.out (fun _ hk => hk.1)))
                           have n4_ := Aside0.mk (hb)
                           have n5_ := Aside0.mk (ho)
                           clear HO_3
                           clear HO_106001
                           clear BK105
                           clear BK118
                           clear HB
                           clear HO_7
                           clear HO137
                           have HO_3 := n0_
                           have HO_106001 := n1_
                           have BK105 := n2_
                           have BK118 := n3_
                           have HB := n4_
                           have HO140 := n5_
                           clear n0_ n1_ n2_ n3_ n4_ n5_
                           clear ho hb hg hat
                           refine hK.out _ _ ⟨(blk_cell BK118.out 0).trans rfl, (blk_cell BK118.out 1).trans rfl⟩ (fun hHeld => ?_)
                           clear hK K
                           refine norm_ (a' := ?_) ?_ ?_
                           rotate_left
                           ·show Act.put _ (some 86) _ = _
                            simp only [Act.put, List.setIfInBounds_toArray, List.set_cons_zero, List.set_cons_succ, i64_w, i32_w]
                            rfl
                           refine pure_ (i := 9) (N := some 7) (v := ?_) (a' := ?_) #[true, true, true, true, true, true, true, true, true, true] rfl rfl (any_of HT_.out (by kernel_rfl)) (fun _ _ _ h => h) (Or.inl ⟨by rfl, ?_⟩) ?_ ?_
                           rotate_left
                           ·intro w'
                            go_simp
                            with_reducible rfl
                           rotate_left
                           ·simp only [Act.put, List.setIfInBounds_toArray, List.set_cons_zero, List.set_cons_succ, i64_w, i32_w]
                            rfl
                           refine done_ (done_of HT_.out (by kernel_rfl)) ?_
                           try go_wp2
                           go_roundg kj17
                           case measure => have := HK1.out; have := HJ3.out; have := HK3.out; have := HJ10.out; have := HK5.out; have := HJ17.out; omega
                           case rel => exact ⟨(y138), (wrap64 (x8_5 + 1)), (by first | rfl | (simp; done) | (simp [*]; done)), H', ⟨by have := HK1.out; have := HJ3.out; have := HK3.out; have := HJ10.out; have := HK5.out; have := HJ17.out; omega⟩, ⟨by (with_reducible repeat (first | apply Kd.R_alloc | apply Kd.R_drewN | apply Kd.R_drew)); exact Kd.R_mono HO_3.out (fun _ hk => ⟨hk.2, ⟨hk.1.1, hk.1.2.2.1⟩⟩)⟩, ⟨by (with_reducible repeat (first | apply Kd.S_alloc | apply Kd.S_drewN | apply Kd.S_drew)); exact Kd.S_mono HO140.out (fun _ hk => trivial)⟩, ⟨by (with_reducible repeat (first | apply Kd.R_alloc | apply Kd.R_drewN | apply Kd.R_drew)); exact Kd.R_mono HO_106001.out (fun _ hk => hk.2)⟩, ⟨by (with_reducible repeat (first | refine blk_drewN ?_ _ | refine blk_drew ?_ | refine blk_alloc ?_ _)); exact BK105.out⟩, ⟨by repeat (first | (with_reducible first | exact HB.out | apply below_alloc | apply pw_below_drewN | apply below_drew1 | refine below_set ?_ GE105.out | refine below_set ?_ GE118.out) | exact HB.out)⟩⟩
                          ·rw [if_neg c48] at H
                           exact absurd H (by simp)
                         ·rw [if_neg c47] at H
                          exact absurd H (by simp)
                       ·rw [if_neg c30] at H
                        exact absurd H (by simp)
                      ·rw [if_neg c29] at H
                       exact absurd H (by simp)
                     ·rw [if_neg c28] at H
                      exact absurd H (by simp)
                    ·rw [if_neg c27] at H
                     exact absurd H (by simp)
                   ·rw [if_neg c26] at H
                    exact absurd H (by simp)
                  ·rw [if_neg c25] at H
                   exact absurd H (by simp)
                 ·replace c24 := Bool.eq_false_iff.mpr c24
                  subst c24
                  have H1 : (if x106001_3.length < 5864062014805 then (logjamlaw26_Own.l1 kj17 l0 x3_1 x4_1 (wrap64 (x6_3 + 1)) ((rd_T92 l0 x4_1).f0) (x106001_3 ++ [x7_5])) else (none)) = some r := by rw [if_neg (show ¬ (false = true) by decide)] at H; exact H
                  clear H
                  have H := H1
                  clear H1
                  by_cases c59 : x106001_3.length < 5864062014805
                  ·rw [if_pos c59] at H
                   have LMc59 := Aside0.mk c59
                   clear c59
                   obtain ⟨y141, hy141⟩ : ∃ y_ : List (List (S96)), y_ = (x106001_3 ++ [x7_5]) := ⟨_, rfl⟩
                   replace H : (logjamlaw26_Own.l1 kj17 l0 x3_1 x4_1 (wrap64 (x6_3 + 1)) ((rd_T92 l0 x4_1).f0) y141) = some r := by first | (rw [hy141]; with_reducible exact H) | (have H2_ := (Option.bind_some _ _).symm.trans H; rw [hy141]; with_reducible exact H2_) | (have H2_ := (Option.bind_some _ _).symm.trans H; with_reducible exact H2_) | with_reducible exact H | (rw [hy141]; exact H) | exact H
                   have Ny141 := Aside0.mk hy141
                   clear hy141
                   have H' := Aside0.mk H
                   clear H
                   have hcz60_0 : wc.cell? ⟨gb105, 0, none⟩ = some (.bool ((rd_T92 l0 x4_1).f0)) := (blk_cell BK105.out 0).trans rfl
                   have hcz60_1 : wc.cell? ⟨gb105, 1, none⟩ = some (u106001) := (blk_cell BK105.out 1).trans rfl
                   have hfz60_0 := blk_frozen BK105.out 0
                   have hfz60_1 := blk_frozen BK105.out 1
                   obtain ⟨Ao62, co62, eo62⟩ := Kd.S_slice HO_7.out
                   subst eo62
                   go_wp2_with (first | ((with_reducible refine gate_builtin (b := .append) (xs := #[.tmp 88, .tmp 90]) rfl ?_); at_builtin; refine Kd.R_append (Kd.slice 96 k96) (w0 := w) w.heap.size rfl (.tmp 88) (.tmp 90) 90 93 (.slice none 0 0) 24 rfl Tryd.underlying90 info93 rfl (by decide) (by omega) u106001 x106001_3 x7_5 [.slice Ao62 x7_5.length co62] (fun _ => True) (fun k_ => ((fun _ => True)) k_ ∧ some k_ ≠ (u106001 : Value).ownBlock) rfl rfl ?aP (fun _ hk => hk) ?aF ?aO ?aB ?aS ?aL ?_; (case aP => exact Kd.M_row (Kd.R_mono (Kd.R_apart' ((Kd.S_R HO_7.out)) (Kd.R_typed HO_106001.out) (by decide)) (fun k_ hk => ⟨trivial, hk.2⟩))); (case aB => exact (by repeat (first | (with_reducible first | exact HB.out | apply below_alloc | apply pw_below_drewN | apply below_drew1 | refine below_set ?_ GE105.out) | exact HB.out))); (case aF => exact (fun _ _ => trivial)); (case aO => exact (by (with_reducible repeat (first | apply Kd.R_alloc | apply Kd.R_drewN | apply Kd.R_drew)); exact Kd.R_mono HO_106001.out (fun _ hk => trivial))); (case aS => exact (below_size (by repeat (first | (with_reducible first | exact HB.out | apply below_alloc | apply pw_below_drewN | apply below_drew1 | refine below_set ?_ GE105.out) | exact HB.out)))); (case aL => have := LMc59.out; omega); intro v142 w61 ho hb hg hat; rw [← Ny141.out] at ho; have n0_ := Aside0.mk (Kd.R_after (ok := (fun k_ => some k_ ≠ (.slice Ao62 x7_5.length co62 : Value).ownBlock ∧ k_ ≠ gb105)) (by (with_reducible repeat (first | apply Kd.R_alloc | apply Kd.R_drewN | apply Kd.R_drew)); exact Kd.R_mono HO_3.out (fun _ hk => ⟨⟨hk.1, hk.2.2⟩, hk.2.1⟩)) hg hat); have n1_ := Aside0.mk (blk_grown (g := gb105) (o := .cells #[.bool ((rd_T92 l0 x4_1).f0), u106001] 92 (0, 0)) (by (with_reducible repeat (first | refine blk_drewN ?_ _ | refine blk_drew ?_ | refine blk_alloc ?_ _)); exact BK105.out) hg (Kd.R_ne HO_106001.out BK105.out (by decide))); have n2_ := Aside0.mk (hb); have n3_ := Aside0.mk (ho); clear HO_3; clear BK105; clear HB; clear HO_106001; clear HO_7; have HO_3 := n0_; have BK105 := n1_; have HB := n2_; have HO143 := n3_; clear n0_ n1_ n2_ n3_; clear ho hb hg hat; obtain ⟨Ao63, co63, eo63⟩ := Kd.R_slice HO143.out; subst eo63; have hcz64_0 : w61.cell? ⟨gb105, 0, none⟩ = some (.bool ((rd_T92 l0 x4_1).f0)) := (blk_cell BK105.out 0).trans rfl; have hcz64_1 : w61.cell? ⟨gb105, 1, none⟩ = some (u106001) := (blk_cell BK105.out 1).trans rfl; have hfz64_0 := blk_frozen BK105.out 0; have hfz64_1 := blk_frozen BK105.out 1))
                   go_roundg kj17
                   case measure => have := HK1.out; have := HJ3.out; have := HK3.out; have := HJ10.out; have := HK5.out; have := HJ17.out; omega
                   case rel => exact ⟨(wrap64 (x6_3 + 1)), (y141), (.slice Ao63 y141.length co63), (by first | rfl | (simp; done) | (simp [*]; done)), H', ⟨by have := HK1.out; have := HJ3.out; have := HK3.out; have := HJ10.out; have := HK5.out; have := HJ17.out; omega⟩, ⟨by (with_reducible repeat (first | apply Kd.R_alloc | apply Kd.R_drewN | apply Kd.R_drew)); exact Kd.R_mono (Kd.R_far (p := ⟨gb105, 1, none⟩) (Kd.R_mono HO_3.out (fun k_ hk => (⟨hk, hk.1.2⟩ : _ ∧ k_ ≠ gb105))) (fun _ hk => hk.2) (.slice Ao63 y141.length co63)) (fun _ hk => ⟨hk.1.2, hk.1.1.2⟩)⟩, ⟨by (with_reducible repeat (first | apply Kd.R_alloc | apply Kd.R_drewN | apply Kd.R_drew)); exact Kd.R_mono (Kd.R_far (p := ⟨gb105, 1, none⟩) (Kd.R_types HO143.out BK105.out (by decide)) (fun _ hk => hk.2) (.slice Ao63 y141.length co63)) (fun _ hk => trivial)⟩, ⟨by (with_reducible repeat (first | refine blk_drewN ?_ _ | refine blk_drew ?_ | refine blk_alloc ?_ _)); refine blk_put (cs := #[.bool ((rd_T92 l0 x4_1).f0), u106001]) ?_ 1 _ rfl; (with_reducible repeat (first | refine blk_drewN ?_ _ | refine blk_drew ?_ | refine blk_alloc ?_ _)); exact BK105.out⟩, ⟨by repeat (first | (with_reducible first | exact HB.out | apply below_alloc | apply pw_below_drewN | apply below_drew1 | refine below_set ?_ GE105.out) | exact HB.out)⟩⟩
                  ·rw [if_neg c59] at H
                   exact absurd H (by simp)
            ·replace c15 := Bool.eq_false_iff.mpr c15
             subst c15
             have H1 : (if x3_1.length < 4398046511104 then (logjamlaw26_Own.l0 kj10 l0 (x3_1 ++ [(⟨((rd_T92 l0 x4_1).f0), x106001_3⟩ : S92)]) (wrap64 (x4_1 + 1))) else (none)) = some r := by rw [if_neg (show ¬ (false = true) by decide)] at H; exact H
             clear H
             have H := H1
             clear H1
             by_cases c65 : x3_1.length < 4398046511104
             ·rw [if_pos c65] at H
              have LMc65 := Aside0.mk c65
              clear c65
              obtain ⟨y107, hy107⟩ : ∃ y_ : List (S92), y_ = (x3_1 ++ [(⟨((rd_T92 l0 x4_1).f0), x106001_3⟩ : S92)]) := ⟨_, rfl⟩
              replace H : (logjamlaw26_Own.l0 kj10 l0 y107 (wrap64 (x4_1 + 1))) = some r := by first | (rw [hy107]; with_reducible exact H) | (have H2_ := (Option.bind_some _ _).symm.trans H; rw [hy107]; with_reducible exact H2_) | (have H2_ := (Option.bind_some _ _).symm.trans H; with_reducible exact H2_) | with_reducible exact H | (rw [hy107]; exact H) | exact H
              have Ny107 := Aside0.mk hy107
              clear hy107
              have H' := Aside0.mk H
              clear H
              have hcz66_0 : wc.cell? ⟨gb105, 0, none⟩ = some (.bool ((rd_T92 l0 x4_1).f0)) := (blk_cell BK105.out 0).trans rfl
              have hcz66_1 : wc.cell? ⟨gb105, 1, none⟩ = some (u106001) := (blk_cell BK105.out 1).trans rfl
              have hfz66_0 := blk_frozen BK105.out 0
              have hfz66_1 := blk_frozen BK105.out 1
              obtain ⟨Ao68, co68, eo68⟩ := Kd.R_slice HO_106001.out
              subst eo68
              go_wp2_with (first | ((with_reducible refine gate_builtin (b := .append) (xs := #[.tmp 93, .tmp 95]) rfl ?_); at_builtin; refine Kd.R_append k92 (w0 := w) w.heap.size rfl (.tmp 93) (.tmp 95) 23 92 (.agg #[(.bool false), (.slice none 0 0)]) 32 rfl Tryd.underlying23 info92 rfl (by decide) (by omega) u3 x3_1 (⟨((rd_T92 l0 x4_1).f0), x106001_3⟩ : S92) [.bool ((rd_T92 l0 x4_1).f0), .slice Ao68 x106001_3.length co68] (fun k_ => k_ ≠ gb105) (fun k_ => ((fun k_ => k_ ≠ gb105)) k_ ∧ some k_ ≠ (u3 : Value).ownBlock) rfl rfl ?aP (fun _ hk => hk) ?aF ?aO ?aB ?aS ?aL ?_; (case aP => exact k92_mkM _ _ _ (⟨((rd_T92 l0 x4_1).f0), x106001_3⟩ : S92) (Kd.R_mono (Kd.R_types (Kd.R_apart' (HO_106001.out) (Kd.R_typed HO_3.out) (by decide)) BK105.out (by decide)) (fun k_ hk => ⟨hk.2, hk.1.2⟩))); (case aB => exact (by repeat (first | (with_reducible first | exact HB.out | apply below_alloc | apply pw_below_drewN | apply below_drew1 | refine below_set ?_ GE105.out) | exact HB.out))); (case aF => exact (fun k_ hk => Kd.freshB (g := gb105) (o := .cells #[.bool ((rd_T92 l0 x4_1).f0), .slice Ao68 x106001_3.length co68] 92 (0, 0)) (by (with_reducible repeat (first | refine blk_drewN ?_ _ | refine blk_drew ?_ | refine blk_alloc ?_ _)); exact BK105.out) k_ hk)); (case aO => exact (by (with_reducible repeat (first | apply Kd.R_alloc | apply Kd.R_drewN | apply Kd.R_drew)); exact Kd.R_mono HO_3.out (fun _ hk => hk.2))); (case aS => exact (below_size (by repeat (first | (with_reducible first | exact HB.out | apply below_alloc | apply pw_below_drewN | apply below_drew1 | refine below_set ?_ GE105.out) | exact HB.out)))); (case aL => have := LMc65.out; omega); intro v108 w67 ho hb hg hat; rw [← Ny107.out] at ho; have n0_ := Aside0.mk (blk_grown (g := gb105) (o := .cells #[.bool ((rd_T92 l0 x4_1).f0), .slice Ao68 x106001_3.length co68] 92 (0, 0)) (by (with_reducible repeat (first | refine blk_drewN ?_ _ | refine blk_drew ?_ | refine blk_alloc ?_ _)); exact BK105.out) hg (Kd.R_away HO_3.out (fun _ hk => hk.2))); have n1_ := Aside0.mk (hb); have n2_ := Aside0.mk (ho); clear BK105; clear HB; clear HO_3; clear HO_106001; have BK105 := n0_; have HB := n1_; have HO109 := n2_; clear n0_ n1_ n2_; clear ho hb hg hat))
              go_roundg kj10
              case measure => have := HK1.out; have := HJ3.out; have := HK3.out; have := HJ10.out; omega
              case rel => exact ⟨(y107), (wrap64 (x4_1 + 1)), (by first | rfl | (simp; done) | (simp [*]; done)), H', ⟨by have := HK1.out; have := HJ3.out; have := HK3.out; have := HJ10.out; omega⟩, ⟨by (with_reducible repeat (first | apply Kd.R_alloc | apply Kd.R_drewN | apply Kd.R_drew)); exact Kd.R_mono HO109.out (fun _ hk => trivial)⟩, ⟨by repeat (first | (with_reducible first | exact HB.out | apply below_alloc | apply pw_below_drewN | apply below_drew1 | refine below_set ?_ GE105.out) | exact HB.out)⟩⟩
             ·rw [if_neg c65] at H
              exact absurd H (by simp)
       ·rw [if_neg c8] at H
        exact absurd H (by simp)
      ·rw [if_neg c7] at H
       exact absurd H (by simp)
     ·replace c6 := Bool.eq_false_iff.mpr c6
      subst c6
      have H1 : (some x3_1) = some r := by rw [if_neg (show ¬ (false = true) by decide)] at H; exact H
      clear H
      have H := H1
      clear H1
      obtain rfl := Option.some.inj H
      go_wp2
      go_ret
      exact ⟨_, by first | rfl | (simp [errW_none, errW_some] <;> rfl) | (simp [*, errW_none, errW_some] <;> rfl), by (with_reducible repeat (first | apply Kd.R_alloc | apply Kd.R_drewN | apply Kd.R_drew)); exact HO_3.out, by repeat (first | (with_reducible first | exact HB.out | apply below_alloc | apply pw_below_drewN | apply below_drew1) | exact HB.out)⟩
end Go.Proofs.YtadepdeckapgcaaDoor.PWitnessTells
end

section
namespace Go.Proofs.YtadepdeckapgcaaDoor
open Go.RowKit Go.Proofs.YtadepdeckapgcaaDoorW.PrintWords Go.Proofs.YtadepdeckapgcaaDoorW.PrintLast Go.Proofs.YtadepdeckapgcaaDoorW.PrintMore PWitnessTells
set_option linter.unusedSimpArgs false
set_option linter.unusedVariables false
def ownM (m : NTerm) : NTerm := ⟨m.f0, m.f1.take 70⟩
def ownW (w : List NTerm) : List NTerm := (w.take 6).map ownM
def ownN (x : NNode) : NNode := ⟨x.f0, (x.f1.take 6).map ownW⟩
def ownL (l : List NNode) : List NNode := (l.take 70).map ownN
theorem getD_take {α : Type} (d : α) (l : List α) (n k : Nat) (h : k < n) : (l.take n).getD k d = l.getD k d := by
  rw [List.getD_eq_getElem?_getD, List.getElem?_take, if_pos h, ← List.getD_eq_getElem?_getD]
theorem take_lt {α : Type} (l : List α) (n j d : Nat) (h : j + (d + 1) = (l.take n).length) : j < n ∧ j < l.length ∧ j < (l.take n).length := by
  have := List.length_take (i := n) (l := l)
  omega
theorem ownM_eq (m : NTerm) (f : List NShare) (h : f = m.f1.take 70) : (⟨m.f0, f⟩ : NTerm) = ownM m := by rw [h]; rfl
theorem ev_own_l2 (l out : List NNode) (i a : Nat) (st : Bool) (dn : List (List NTerm)) (r : List NNode) (hi : i < l.length) (ha : a < (rd_T92 l (i : Int)).f1.length) (hm : (rd_T92 l (i : Int)).f1.length ≤ MX) (hdn : dn.length ≤ 6) (hway : Bw (rd_L5 (rd_T92 l (i : Int)).f1 (a : Int))) :
    ∀ (d j : Nat) (acc : List NTerm), j + d = ((rd_L5 (rd_T92 l (i : Int)).f1 (a : Int)).take 6).length → acc.length ≤ j →
      Ev (fun k => logjamlaw26_Own.l1 k l out i ((a + 1 : Nat) : Int) st (dn ++ [acc ++ (((rd_L5 (rd_T92 l (i : Int)).f1 (a : Int)).take 6).drop j).map ownM])) r →
      Ev (fun k => logjamlaw26_Own.l2 k l out i a acc j st dn) r := by
  have hwa := Lib.hid <| wrap_succ a (rd_T92 l (i : Int)).f1.length ha hm
  generalize hW : rd_L5 (rd_T92 l (i : Int)).f1 (a : Int) = way at *
  have htl : (way.take 6).length = min 6 way.length := List.length_take
  intro d
  induction d with
  | zero =>
    intro j acc hj hac h
    rw [List.drop_of_length_le (by omega), List.map_nil, List.append_nil] at h
    have h2 : Ev (fun k => logjamlaw26_Own.j5 k l out i a acc j false st dn) r := by
      refine Ev.step (f := fun k => logjamlaw26_Own.l1 k l out i ((a + 1 : Nat) : Int) st (dn ++ [acc])) (fun k => ?_) h
      simp only [logjamlaw26_Own.j5]
      rw [if_neg (by simp), if_pos (by omega), hwa.out]
    by_cases hjl : j < way.length
    · refine Ev.step (f := fun k => logjamlaw26_Own.j5 k l out i a acc j false st dn) (fun k => ?_) h2
      simp only [logjamlaw26_Own.l2, hW]
      rw [if_pos (by omega), if_pos (by omega), if_pos (by omega), if_pos (by omega), if_pos (by omega), decide_eq_false (by omega)]
    · refine Ev.step (f := fun k => logjamlaw26_Own.j5 k l out i a acc j false st dn) (fun k => ?_) h2
      simp only [logjamlaw26_Own.l2, hW]
      rw [if_pos (by omega), if_pos (by omega), if_pos (by omega), if_pos (by omega), if_neg (by omega)]
  | succ d ih =>
    intro j acc hj hac h
    obtain ⟨hj6, hjl, hjt⟩ := take_lt way 6 j d hj
    have hwj := Lib.hid <| wrap_succ j way.length hjl hway.1
    rw [drop_cons' z96 (way.take 6) j hjt, getD_take z96 way 6 j hj6] at h
    have hrd : rd_T96 way (j : Int) = way.getD j z96 := rfl
    have hmm : (way.getD j z96).f1.length ≤ MX := hway.2 _ (getD_mem z96 way j hjl)
    have h' : Ev (fun k => logjamlaw26_Own.l1 k l out i ((a + 1 : Nat) : Int) st (dn ++ [(acc ++ [ownM (way.getD j z96)]) ++ ((way.take 6).drop (j + 1)).map ownM])) r := by rw [List.append_assoc]; exact h
    have hj1 : j + 1 + d = (way.take 6).length := by rw [← hj]; omega
    have hacc : acc.length ≤ 6 := by omega
    have ih' := ih (j + 1) (acc ++ [ownM (way.getD j z96)]) hj1 (by rw [List.length_append, List.length_singleton]; omega) h'
    generalize way.getD j z96 = m at *
    refine Ev.step (f := fun k => logjamlaw26_Own.j5 k l out i a acc j true st dn) (fun k => ?_) ?_
    · simp only [logjamlaw26_Own.l2, hW]
      rw [if_pos (by omega), if_pos (by omega), if_pos (by omega), if_pos (by omega), if_pos (by omega), decide_eq_true (by omega)]
    refine Ev.step (f := fun k => logjamlaw26_Own.l2 k l out i a (acc ++ [ownM m]) ((j + 1 : Nat) : Int) st dn) (fun k => ?_) ih'
    simp only [logjamlaw26_Own.j5, hW]
    rw [if_pos trivial, if_pos (by omega), if_pos (by omega), if_pos (by omega), if_pos (by omega), if_pos (by omega), if_pos (by omega), hrd, hwj.out]
    by_cases h70 : (m.f1.length : Int) > 70
    · rw [if_pos h70, if_pos (by omega)]
      simp only [Option.bind_some, List.nil_append, List.length_nil, List.length_take]
      rw [if_pos (by omega), if_pos (by omega), ownM_eq m _ rfl]
    · rw [if_neg h70]
      simp only [Option.bind_some, List.nil_append, List.length_nil]
      rw [if_pos (by omega), if_pos (by omega), ownM_eq m _ (List.take_of_length_le (by omega)).symm]
theorem ev_own_l1 (l out : List NNode) (i : Nat) (st : Bool) (r : List NNode) (hi : i < l.length) (hil : l.length ≤ MX) (hout : out.length ≤ 70) (hws : Bws (rd_T92 l (i : Int)).f1) :
    ∀ (d a : Nat) (dn : List (List NTerm)), a + d = ((rd_T92 l (i : Int)).f1.take 6).length → dn.length ≤ a →
      Ev (fun k => logjamlaw26_Own.l0 k l (out ++ [⟨st, dn ++ (((rd_T92 l (i : Int)).f1.take 6).drop a).map ownW⟩]) ((i + 1 : Nat) : Int)) r →
      Ev (fun k => logjamlaw26_Own.l1 k l out i a st dn) r := by
  have hwi := Lib.hid <| wrap_succ i l.length hi hil
  have htl : ((rd_T92 l (i : Int)).f1.take 6).length = min 6 (rd_T92 l (i : Int)).f1.length := List.length_take
  intro d
  induction d with
  | zero =>
    intro a dn hj hac h
    rw [List.drop_of_length_le (by omega), List.map_nil, List.append_nil] at h
    have h2 : Ev (fun k => logjamlaw26_Own.j3 k l out i a false st dn) r := by
      refine Ev.step (f := fun k => logjamlaw26_Own.l0 k l (out ++ [⟨st, dn⟩]) ((i + 1 : Nat) : Int)) (fun k => ?_) h
      simp only [logjamlaw26_Own.j3]
      rw [if_neg (by simp), if_pos (by omega), hwi.out]
    by_cases hjl : a < (rd_T92 l (i : Int)).f1.length
    · refine Ev.step (f := fun k => logjamlaw26_Own.j3 k l out i a false st dn) (fun k => ?_) h2
      simp only [logjamlaw26_Own.l1]
      rw [if_pos (by omega), if_pos (by omega), if_pos (by omega), decide_eq_false (by omega)]
    · refine Ev.step (f := fun k => logjamlaw26_Own.j3 k l out i a false st dn) (fun k => ?_) h2
      simp only [logjamlaw26_Own.l1]
      rw [if_pos (by omega), if_pos (by omega), if_neg (by omega)]
  | succ d ih =>
    intro a dn hj hac h
    obtain ⟨ha6, hal, hat⟩ := take_lt (rd_T92 l (i : Int)).f1 6 a d hj
    rw [drop_cons' [] ((rd_T92 l (i : Int)).f1.take 6) a hat, getD_take _ _ _ _ ha6] at h
    have hrd : rd_L5 (rd_T92 l (i : Int)).f1 (a : Int) = (rd_T92 l (i : Int)).f1.getD a [] := rfl
    have ih' := ih (a + 1) (dn ++ [ownW (rd_L5 (rd_T92 l (i : Int)).f1 (a : Int))]) (by omega) (by rw [List.length_append, List.length_singleton]; omega) (by rw [hrd, List.append_assoc]; exact h)
    refine Ev.step (f := fun k => logjamlaw26_Own.j3 k l out i a true st dn) (fun k => ?_) ?_
    · simp only [logjamlaw26_Own.l1]
      rw [if_pos (by omega), if_pos (by omega), if_pos (by omega), decide_eq_true (by omega)]
    refine Ev.step (f := fun k => logjamlaw26_Own.l2 k l out i a [] ((0 : Nat) : Int) st dn) (fun k => by simp only [logjamlaw26_Own.j3]; rw [if_pos trivial]; rfl) ?_
    refine ev_own_l2 l out i a st dn r hi hal hws.1 (by omega) (hws.2 _ (getD_mem [] _ a hal)) ((rd_L5 (rd_T92 l (i : Int)).f1 (a : Int)).take 6).length 0 [] (Nat.zero_add _) (Nat.le_refl _) ?_
    exact ih'
theorem ev_own_l0 (l : List NNode) (hb : Bns l) : ∀ (d i : Nat) (out : List NNode), i + d = (l.take 70).length → out.length ≤ i → Ev (fun k => logjamlaw26_Own.l0 k l out i) (out ++ ((l.take 70).drop i).map ownN) := by
  have htl : (l.take 70).length = min 70 l.length := List.length_take
  intro d
  induction d with
  | zero =>
    intro i out hi ho
    rw [List.drop_of_length_le (by omega), List.map_nil, List.append_nil]
    have h2 : Ev (fun k => logjamlaw26_Own.j1 k l out i false) out := Ev.step (f := fun _ => some out) (fun k => by simp only [logjamlaw26_Own.j1]; rw [if_neg (by simp)]) (Ev.now _)
    by_cases hil : i < l.length
    · exact Ev.step (f := fun k => logjamlaw26_Own.j1 k l out i false) (fun k => by simp only [logjamlaw26_Own.l0]; rw [if_pos (by omega), decide_eq_false (by omega)]) h2
    · exact Ev.step (f := fun k => logjamlaw26_Own.j1 k l out i false) (fun k => by simp only [logjamlaw26_Own.l0]; rw [if_neg (by omega)]) h2
  | succ d ih =>
    intro i out hi ho
    obtain ⟨hi7, hil, hit⟩ := take_lt l 70 i d hi
    rw [drop_cons' z92 (l.take 70) i hit, getD_take _ _ _ _ hi7]
    have hrd : rd_T92 l (i : Int) = l.getD i z92 := rfl
    have ih' := ih (i + 1) (out ++ [ownN (rd_T92 l (i : Int))]) (by omega) (by simp; omega)
    have hws : Bws (rd_T92 l (i : Int)).f1 := hb.2 _ (getD_mem z92 l i hil)
    rw [List.map_cons, ← hrd]
    refine Ev.step (f := fun k => logjamlaw26_Own.j1 k l out i true) (fun k => by simp only [logjamlaw26_Own.l0]; rw [if_pos (by omega), decide_eq_true (by omega)]) ?_
    refine Ev.step (f := fun k => logjamlaw26_Own.l1 k l out i ((0 : Nat) : Int) (rd_T92 l (i : Int)).f0 []) (fun k => by simp only [logjamlaw26_Own.j1]; rw [if_pos trivial, if_pos (by omega), if_pos (by omega)]; rfl) ?_
    refine ev_own_l1 l out i _ _ hil hb.1 (by omega) hws ((rd_T92 l (i : Int)).f1.take 6).length 0 [] (Nat.zero_add _) (Nat.le_refl _) ?_
    simpa [ownN] using ih'
theorem ev_own (l : List NNode) (hb : Bns l) : Ev (fun k => logjamlaw26_Own.f k l) (ownL l) :=
  Ev.congr (f := fun k => logjamlaw26_Own.l0 k l [] ((0 : Nat) : Int)) (fun k => rfl) (by simpa [ownL] using ev_own_l0 l hb (l.take 70).length 0 [] (by omega) (Nat.le_refl _))
theorem wOwn26 (w : World) (A : Option Addr) (c : Nat) (l : List NNode) (hC : Kd.C k92 w A l.length l) (hc : l.length ≤ c) :
    Calls Tryd.prog 14 #[.slice A l.length c] w fun e w' => ∃ v, e = .returned v ∧ k92.R 92 w' w.heap.size Any_ v (ownL l) ∧ Below w.heap.size w w' := by
  obtain ⟨k, hk⟩ := (ev_own l (bns_of hC)).rounds
  exact logjamlaw26_Own.calls k A c l _ w hC hc hk
theorem ownL_sns (l : List NNode) : Sns (ownL l) := by
  refine ⟨by simp [ownL]; omega, fun x hx => ?_⟩
  obtain ⟨y, _, rfl⟩ := List.mem_map.1 hx
  refine ⟨by simp [ownN]; omega, fun w hw => ?_⟩
  obtain ⟨u, _, rfl⟩ := List.mem_map.1 hw
  refine ⟨by simp [ownW]; omega, fun m hm => ?_⟩
  obtain ⟨v, _, rfl⟩ := List.mem_map.1 hm
  simp [ownM]; omega
end Go.Proofs.YtadepdeckapgcaaDoor
end

section
namespace Go.Proofs.YtadepdeckapgcaaDoor
open Go.RowKit Go.Proofs.YtadepdeckapgcaaDoorW.PrintWords Go.Proofs.YtadepdeckapgcaaDoorW.PrintLast Go.Proofs.YtadepdeckapgcaaDoorW.PrintMore PWitnessTells
set_option linter.unusedSimpArgs false
set_option linter.unusedVariables false
theorem own_first {W : World} {base : Nat} {v : Value} {y : NNode} (h : k92.R 92 W base Any_ v [y]) :
    ∃ g cap A1 c1, v = .slice (some ⟨g, 0, none⟩) 1 cap ∧ W.cell? ⟨g, 0, none⟩ = some (.bool y.f0) ∧ W.cell? ⟨g, 1, none⟩ = some (.slice A1 y.f1.length c1) ∧ k92.M W base Any_ y [.bool y.f0, .slice A1 y.f1.length c1] := by
  obtain ⟨g, c, rfl, _⟩ := Kd.R_form h (by simp)
  obtain ⟨cs, _, hM, hcell, _⟩ := Kd.R_elem (n := 1) h ⟨false, []⟩ 0 (by omega) (by omega)
  obtain ⟨v1, rfl, hR⟩ := k92_openM hM
  obtain ⟨A1, c1, rfl⟩ := Kd.R_slice hR
  refine ⟨g, c, A1, c1, rfl, ?_, ?_, k92_mkM _ _ _ _ (Kd.R_mono hR (fun _ _ => trivial))⟩
  · exact hcell 0 _ rfl
  · exact hcell 1 _ rfl
def OwRel (w : World) (R Y : Nat) (time : Int) (xs : Array Value) (d : List Int) (i : Value) (wr : World) : Prop :=
  ∃ (k : Nat) (vd : Value), k ≤ (d.take 70).length ∧ i = .int .i64 k ∧ PtAt w R Y time xs vd (.slice none 0 0) ((d.take 70).take k) [] wr
def OwRel2 (w : World) (R Y : Nat) (time : Int) (xs : Array Value) (vd : Value) (d : List Int) (n : List NNode) (i : Value) (wr : World) : Prop :=
  ∃ (k : Nat) (vn : Value), k ≤ (n.take 70).length ∧ i = .int .i64 k ∧ PtAt w R Y time xs vd vn (d.take 70) (((n.take 70).take k).map ownN) wr
set_option maxRecDepth 100000 in
set_option maxHeartbeats 1000000 in
theorem wOwn36 (w : World) (time : Int) (A1 : Option Addr) (c1 : Nat) (d : List Int) (A2 : Option Addr) (c2 : Nat) (n : List NNode) (h1 : Kd.C (Kd.int .i64) w A1 d.length d) (h2 : d.length ≤ c1) (h3 : Kd.C k92 w A2 n.length n) (h4 : n.length ≤ c2) :
    Calls Tryd.prog 13 #[.agg #[.int .i64 time, .slice A1 d.length c1, .slice A2 n.length c2]] w fun e w' =>
      ∃ v1 v2, e = .returned (.agg #[.int .i64 time, v1, v2]) ∧ (Kd.int .i64).R 3 w' w.heap.size Any_ v1 (d.take 70) ∧ k92.R 92 w' w.heap.size Any_ v2 (ownL n) ∧ Below w.heap.size w w' := by
  have hm1 := h1.2.1
  have hm3 := h3.2.1
  have HD := Lib.hid h1; have HN := Lib.hid h3
  clear h1 h3
  obtain ⟨dt, hdt⟩ : ∃ x, x = d.take 70 := ⟨_, rfl⟩
  have hdtl : dt.length = min 70 d.length := by rw [hdt, List.length_take]
  obtain ⟨nt, hnt⟩ : ∃ x, x = n.take 70 := ⟨_, rfl⟩
  have hntl : nt.length = min 70 n.length := by rw [hnt, List.length_take]
  have HP0 : Hid (PtAt w (w.heap.size + 1) (w.heap.size + 1 + 1) time #[.int .i64 time, .slice A1 d.length c1, .slice A2 n.length c2] (.slice none 0 0) (.slice none 0 0) [] [] (((w.alloc (.cells #[.int .i64 time, .slice A1 d.length c1, .slice A2 n.length c2] 25)).alloc (.cells #[.int .i64 0, .slice none 0 0, .slice none 0 0] 25)).alloc (.cells #[.int .i64 time, .slice none 0 0, .slice none 0 0] 25))) := Lib.hid (by
    refine ⟨((Blk.new _ _ _).alloc _).alloc _, ?_, ?_, Kd.R_nil _ _ _ _ _, Kd.R_nil _ _ _ _ _, (((Below.refl _ _).alloc (Nat.le_refl _) _).alloc (by simp) _).alloc (by simp <;> omega) _⟩
    · have q := (Blk.new (w.alloc (.cells #[.int .i64 time, .slice A1 d.length c1, .slice A2 n.length c2] 25)) #[.int .i64 0, .slice none 0 0, .slice none 0 0] 25).alloc (.cells #[.int .i64 time, .slice none 0 0, .slice none 0 0] 25)
      simpa using q
    · have q := Blk.new ((w.alloc (.cells #[.int .i64 time, .slice A1 d.length c1, .slice A2 n.length c2] 25)).alloc (.cells #[.int .i64 0, .slice none 0 0, .slice none 0 0] 25)) #[.int .i64 time, .slice none 0 0, .slice none 0 0] 25
      simpa using q)
  have HDT := Lib.hid hdt; have HNT := Lib.hid hnt
  clear hdt hnt
  go_enter Tryd.func13, Tryd.ntmps13
  go_wp2
  go_loopw [4] (fun i wr => OwRel w (w.heap.size + 1) (w.heap.size + 1 + 1) time #[.int .i64 time, .slice A1 d.length c1, .slice A2 n.length c2] d i wr) (fun i _ => dt.length - (intOf i).toNat)
  case atStart => exact ⟨0, _, Nat.zero_le _, rfl, HP0.out⟩
  case round =>
    obtain ⟨k, vd, hk, rfl, hP⟩ := hrel
    rw [← HDT.out] at hk hP
    obtain ⟨dd, hdd⟩ : ∃ z, z = dt.take k := ⟨_, rfl⟩
    have hdl : dd.length = k := by rw [hdd, List.length_take]; omega
    rw [← hdd] at hP
    subst hdl
    obtain ⟨Ad, cd, rfl⟩ := Kd.R_slice hP.od
    have HDD := Lib.hid hdd; have HP2 := Lib.hid hP
    have y0 := hP.y.cell 0; have y1 := hP.y.cell 1; have y2 := hP.y.cell 2
    have v0 := hP.x.cell 0; have v1 := hP.x.cell 1; have v2 := hP.x.cell 2
    simp at y0 y1 y2 v0 v1 v2
    by_cases hlt : dd.length < dt.length
    · obtain ⟨ad, hA, h0⟩ := at_ints (Kd.C_below HD.out hP.b) dd.length (by omega)
      have htk := take_snoc' 0 dt dd.length hlt
      rw [HDT.out, getD_take 0 d 70 dd.length (by omega), ← HDT.out, ← hdd] at htk
      generalize d.getD dd.length 0 = t at *
      subst hA
      have hk70 : decide ((dd.length : Int) < 70) = true := decide_eq_true (by omega)
      have hkd : decide ((dd.length : Int) < (d.length : Int)) = true := decide_eq_true (by omega)
      have HTK := Lib.hid htk
      have HPd := Lib.hid (HP2.out.quiet (Fr.refl _ _).drew)
      have y1a : ∀ o, (wr.alloc o).cell? ⟨w.heap.size + 1 + 1, 1, none⟩ = some (.slice Ad dd.length cd) := fun o => by simpa using (HP2.out.y.alloc o).cell 1
      have hYl : w.heap.size + 1 + 1 < wr.heap.size := HP2.out.y.lt
      clear hP hdd htk
      go_wp2_with fail
      go_region_law (refine rAppStep (W := wr.drew) (Kd.int .i64) (w0 := w) w.heap.size rfl _ _ 22 3 (.int .i64 0) 8 rfl Tryd.underlying22 infoInt rfl (by decide) (by decide) (.slice Ad dd.length cd) dd t [.int .i64 t] rfl rfl rfl (by intro q hq; simp [Kd.int, Kd.scalar] at hq) HPd.out.od HPd.out.b HPd.out.b.size (by omega) ?_; intro v1 w4 ho _ hg _; obtain ⟨de, hde⟩ : ∃ z, z = dd ++ [t] := ⟨_, rfl⟩; rw [← hde] at ho; obtain ⟨Ae, ce, hve⟩ := Kd.R_slice ho; subst hve; have HDE := Lib.hid hde; have HPg := Lib.hid (PtAt.growD HPd.out (by omega) (by omega) hg ho); have q2 := grown_blk hg HPd.out.y (own_not_blk HPd.out.y (Kd.R_own HPd.out.od).choose_spec (by decide)); have qc := q2.cell 1; have qf := q2.free 1; simp at qc; clear hde ho hg q2)
      all_goals
        go_wp2_with fail
        go_roundw
        case rel => exact ⟨dd.length + 1, .slice Ae de.length ce, by rw [← HDT.out]; omega, by go_num, by rw [← HDT.out, HTK.out, ← HDE.out]; exact HPg.out⟩
        case measure => simp [intOf]; omega
    · have hdd2 : dd = dt := by rw [hdd, List.take_of_length_le (by omega)]
      have HDD2 := Lib.hid hdd2
      obtain ⟨wo, hwo⟩ : ∃ x, x = wr := ⟨_, rfl⟩
      subst hwo
      clear hP hdd hdd2
      rcases Nat.lt_or_ge dd.length d.length with hq | hq
      all_goals
        have hkd : decide ((dd.length : Int) < (d.length : Int)) = decide (dd.length < d.length) := by simp
        first
          | (rw [decide_eq_true hq] at hkd; have hk71 : decide ((dd.length : Int) < 70) = false := decide_eq_false (by omega))
          | rw [decide_eq_false (show ¬ dd.length < d.length by omega)] at hkd
        go_wp2
        go_loopw [6] (fun i wr => OwRel2 w (w.heap.size + 1) (w.heap.size + 1 + 1) time #[.int .i64 time, .slice A1 d.length c1, .slice A2 n.length c2] (.slice Ad dd.length cd) d n i wr) (fun i _ => nt.length - (intOf i).toNat)
        case atStart => exact ⟨0, _, Nat.zero_le _, rfl, by rw [← HDT.out, ← HDD2.out]; exact HP2.out⟩
        case round =>
          obtain ⟨k, vn, hk2, rfl, hP⟩ := hrel
          rw [← HDT.out, ← HDD2.out, ← HNT.out] at hP
          rw [← HNT.out] at hk2
          obtain ⟨nn, hnn⟩ : ∃ z, z = (nt.take k).map ownN := ⟨_, rfl⟩
          have hnl : nn.length = k := by rw [hnn, List.length_map, List.length_take]; omega
          rw [← hnn] at hP
          subst hnl
          obtain ⟨An, cn, rfl⟩ := Kd.R_slice hP.on
          have HNN := Lib.hid hnn; have HP3 := Lib.hid hP
          have y0 := hP.y.cell 0; have y1 := hP.y.cell 1; have y2 := hP.y.cell 2
          have v0 := hP.x.cell 0; have v1 := hP.x.cell 1; have v2 := hP.x.cell 2
          simp at y0 y1 y2 v0 v1 v2
          by_cases hlt2 : nn.length < nt.length
          · have hln : nn.length < n.length := by omega
            have hk72 : decide ((nn.length : Int) < 70) = true := decide_eq_true (by omega)
            have hkn : decide ((nn.length : Int) < (n.length : Int)) = true := decide_eq_true (by omega)
            have htk := take_snoc' z92 nt nn.length hlt2
            rw [HNT.out, getD_take z92 n 70 nn.length (by omega), ← HNT.out] at htk
            have hmid : (n.take (nn.length + 1)).drop nn.length = [n.getD nn.length z92] := by
              rw [take_snoc' z92 n nn.length hln, List.drop_append_of_le_length (by simp; omega), List.drop_of_length_le (by simp; omega)]
              rfl
            have hC1 := Kd.C_mid (c := c2) (Kd.C_below HN.out hP.b) (lo := nn.length) (hi := nn.length + 1) (by omega) (by omega) h4
            rw [hmid, if_neg (by omega)] at hC1
            generalize n.getD nn.length z92 = x at *
            obtain ⟨ad2, _, _, hA2, _⟩ := at_T92 (Kd.C_below HN.out hP.b) nn.length (by omega) (by omega)
            subst hA2
            have hwr : IntKind.i64.wrap ((nn.length : Int) + 1) = (nn.length : Int) + 1 := by
              rw [IntKind.wrap_i64]; omega
            have hcn : ¬ c2 = nn.length := by omega
            have hcb : (nn.length : Int) + 1 ≤ (c2 : Int) := by omega
            have hn0 : (0 : Int) ≤ (nn.length : Int) + 1 := by omega
            have htn : ((nn.length : Int) + 1).toNat = nn.length + 1 := by omega
            have HTK := Lib.hid htk; have HC1 : Hid (Kd.C k92 wr (some (ad2.add (nn.length * 2))) [x].length [x]) := Lib.hid hC1
            have hc1' : [x].length ≤ c2 - nn.length := by show 1 ≤ c2 - nn.length; omega
            have HN5 : Hid (Quiet wr wr.drew) := Lib.hid (Fr.refl _ _).drew
            have hz5 : w.heap.size ≤ wr.drew.heap.size := HP3.out.b.size
            have hRY : w.heap.size + 1 ≠ w.heap.size + 1 + 1 := by omega
            have hYY : w.heap.size < w.heap.size + 1 + 1 := by omega
            clear hP hnn htk hmid hC1
            go_wp2_with fail
            go_region_law (first
              | (go_simp; go_at_call 14; refine (wOwn26 _ (some (ad2.add (nn.length * 2))) (c2 - nn.length) [x] (Kd.C_below HC1.out (Quiet.bel HN5.out)) hc1').mono ?_; rintro e w6 ⟨v6, rfl, hr6, hb6⟩; obtain ⟨g6, cap6, A6, c6, hv6, e0, e1, hM6⟩ := own_first hr6; subst hv6; have HP6 := Lib.hid (HP3.out.quiet (HN5.out.quiet (Quiet.of hb6))); have k2 := HP6.out.y.cell 2; simp at k2; have k2a : ∀ o, (w6.alloc o).cell? ⟨w.heap.size + 1 + 1, 2, none⟩ = some (.slice An nn.length cn) := (fun o => by simpa using (HP6.out.y.alloc o).cell 2); have hY6 : w.heap.size + 1 + 1 < w6.heap.size := HP6.out.y.lt; have HM6 := Lib.hid hM6; clear hr6 hb6 hM6)
              | (have hq7 := HM6.out; refine rAppStep k92 (w0 := w) w.heap.size rfl _ _ 23 92 _ 32 rfl Tryd.underlying23 infoNode rfl (by decide) (by decide) (.slice An nn.length cn) nn (ownN x) _ rfl rfl (k92.M_lower hz5 HM6.out) (by decide) HP6.out.on HP6.out.b HP6.out.b.size (by omega) ?_; intro v7 w7 ho _ hg _; obtain ⟨ne, hne⟩ : ∃ z, z = nn ++ [ownN x] := ⟨_, rfl⟩; rw [← hne] at ho; obtain ⟨A7, c7, hv7⟩ := Kd.R_slice ho; subst hv7; have HNE := Lib.hid hne; have HP7 := Lib.hid (PtAt.growN HP6.out hRY hYY hg ho); have q2 := grown_blk hg HP6.out.y (own_not_blk HP6.out.y (Kd.R_own HP6.out.on).choose_spec (by decide)); have qc := q2.cell 2; have qf := q2.free 2; simp at qc; clear hne ho hg q2))
            all_goals
              go_wp2_with fail
              go_roundw
              case rel =>
                refine ⟨nn.length + 1, .slice A7 ne.length c7, by rw [← HNT.out]; omega, by go_num, ?_⟩
                rw [← HDT.out, ← HDD2.out, ← HNT.out, HTK.out, List.map_append, ← HNN.out, List.map_cons, List.map_nil, ← HNE.out]
                exact HP7.out
              case measure => simp [intOf]; omega
          · have hnn2 : nn = ownL n := by rw [hnn, List.take_of_length_le (by omega), HNT.out]; rfl
            have HN2 := Lib.hid hnn2
            have r0 := hP.r.cell 0; have r1 := hP.r.cell 1; have r2 := hP.r.cell 2
            have f0 := hP.r.free 0; have f1 := hP.r.free 1; have f2 := hP.r.free 2
            simp at r0 r1 r2
            have hkn : decide ((nn.length : Int) < (n.length : Int)) = decide (nn.length < n.length) := by simp
            have hk72 : decide ((nn.length : Int) < 70) = decide (nn.length < 70) := by rw [decide_eq_decide]; omega
            clear hP hnn hnn2
            rcases Nat.lt_or_ge nn.length n.length with hq2 | hq2
            all_goals
              first
                | rw [decide_eq_true hq2, ] at hkn
                | rw [decide_eq_false (show ¬ nn.length < n.length by omega)] at hkn
              first
                | rw [decide_eq_false (show ¬ nn.length < 70 by omega)] at hk72
                | clear hk72
              go_wp2
              refine bodyPost_ret (results_cell_row rfl _ _ (w.heap.size + 1) 25 #[.int .i64 time, .slice Ad dd.length cd, .slice An nn.length cn] (0, 0) _ rfl ?blk Tryd.underlying25 rfl (by kernel_rfl)) rfl ?_
              case blk =>
                have q := ((HP3.out.r.set 0 (.int .i64 time)).set 1 (.slice Ad dd.length cd)).set 2 (.slice An nn.length cn)
                simp at q
                exact q
              refine ⟨.slice Ad dd.length cd, .slice An nn.length cn, rfl, ?_, ?_, ?_⟩
              · rw [← HDT.out, ← HDD2.out]
                exact Kd.R_set (Kd.R_set (Kd.R_set HP3.out.od HP3.out.r (by decide) 0 (.int .i64 time)) (HP3.out.r.set 0 (.int .i64 time)) (by decide) 1 (.slice Ad dd.length cd)) ((HP3.out.r.set 0 (.int .i64 time)).set 1 (.slice Ad dd.length cd)) (by decide) 2 (.slice An nn.length cn)
              · rw [← HN2.out]
                exact Kd.R_set (Kd.R_set (Kd.R_set HP3.out.on HP3.out.r (by decide) 0 (.int .i64 time)) (HP3.out.r.set 0 (.int .i64 time)) (by decide) 1 (.slice Ad dd.length cd)) ((HP3.out.r.set 0 (.int .i64 time)).set 1 (.slice Ad dd.length cd)) (by decide) 2 (.slice An nn.length cn)
              · exact ((HP3.out.b.setCell (by show w.heap.size ≤ w.heap.size + 1; omega) _).setCell (by show w.heap.size ≤ w.heap.size + 1; omega) _).setCell (by show w.heap.size ≤ w.heap.size + 1; omega) _
end Go.Proofs.YtadepdeckapgcaaDoor
end

section
namespace Go.Proofs.YtadepdeckapgcaaDoor
open Go.RowKit Go.Proofs.YtadepdeckapgcaaDoorW.PrintWords Go.Proofs.YtadepdeckapgcaaDoorW.PrintLast Go.Proofs.YtadepdeckapgcaaDoorW.PrintMore PWitnessTells
set_option linter.unusedSimpArgs false
set_option linter.unusedVariables false
theorem runits_f (n : Int) : logjamref36_units.f n = some (unitsB n) := by
  unfold logjamref36_units.f unitsB
  by_cases h : n > 0
  · rw [if_pos h]; congr 1; rw [decide_eq_decide]; omega
  · rw [if_neg h, decide_eq_false (by omega)]
def prevT (l : List NShare) (i : Nat) : Int := if i = 0 then -1 else (l.getD (i - 1) z108).f0
theorem termL_eq (l : List NShare) : ∀ last e, (e = 0 ∨ e = 1) → termL last e l = if deadC last (l.map (·.f0)) then (if l.all (fun s => unitsB s.f1) then e else 1) else 2 := by
  induction l with
  | nil => intro last e he; simp [termL, deadC]
  | cons s r ih =>
    intro last e he
    rw [termL_cons, List.map_cons, deadC_cons]
    by_cases h : s.f0 ≤ last ∨ 64 ≤ s.f0
    · simp [h]
    · rw [if_neg h, if_neg h, ih _ _ (by split <;> omega), List.all_cons]
      cases unitsB s.f1 <;> simp
theorem ev_rterm_l1 (K : Int) (l : List NShare) (hl : l.length ≤ MX) : ∀ (d i : Nat), i + d = l.length → Ev (fun k => logjamref36_term.l1 k i K l) (if (l.drop i).all (fun s => unitsB s.f1) then 0 else 1) := by
  intro d
  induction d with
  | zero =>
    intro i hi
    rw [List.drop_of_length_le (by omega)]
    exact Ev.step (f := fun _ => some 0) (fun k => by simp only [logjamref36_term.l1]; rw [if_neg (by omega)]) (Ev.now _)
  | succ d ih =>
    intro i hi
    rw [drop_cons' z108 l i (by omega), List.all_cons]
    have hwr := wrap_succ i l.length (by omega) hl
    have hrd : rd_T108 l (i : Int) = l.getD i z108 := rfl
    have ih' := ih (i + 1) (by omega)
    generalize l.getD i z108 = s at *
    cases hu : unitsB s.f1
    · exact Ev.step (f := fun _ => some 1) (fun k => by simp only [logjamref36_term.l1]; rw [if_pos (by omega), if_pos (by omega), hrd, runits_f, hu]; rfl) (Ev.now _)
    · exact Ev.step (f := fun k => logjamref36_term.l1 k ((i + 1 : Nat) : Int) K l) (fun k => by simp only [logjamref36_term.l1]; rw [if_pos (by omega), if_pos (by omega), hrd, runits_f, hu, hwr]; rfl) (by simpa using ih')
theorem ev_rterm_l0 (K : Int) (l : List NShare) (hl : l.length ≤ MX) : ∀ (d i : Nat), i + d = l.length → -1 ≤ prevT l i → Ev (fun k => logjamref36_term.l0 k i K l) (if deadC (prevT l i) ((l.drop i).map (·.f0)) then (if l.all (fun s => unitsB s.f1) then 0 else 1) else 2) := by
  intro d
  induction d with
  | zero =>
    intro i hi _
    rw [List.drop_of_length_le (by omega)]
    refine Ev.step (f := fun k => logjamref36_term.l1 k 0 K l) (fun k => by simp only [logjamref36_term.l0]; rw [if_neg (by omega)]) ?_
    exact ev_rterm_l1 K l hl l.length 0 (by omega)
  | succ d ih =>
    intro i hi hge
    rw [drop_cons' z108 l i (by omega), List.map_cons, deadC_cons]
    have hwr := wrap_succ i l.length (by omega) hl
    have hrd : rd_T108 l (i : Int) = l.getD i z108 := rfl
    have hp : prevT l (i + 1) = (l.getD i z108).f0 := by unfold prevT; simp
    have ih' := ih (i + 1) (by omega)
    rw [hp] at ih'
    have hpv : 0 < i → wrap64 ((i : Int) - 1) = ((i - 1 : Nat) : Int) ∧ (rd_T108 l ((i - 1 : Nat) : Int)).f0 = prevT l i := fun h0 => ⟨wrap_pred i l.length (by omega) hl h0, by unfold prevT; rw [if_neg (by omega)]; rfl⟩
    have hpz : i = 0 → prevT l i = -1 := fun h0 => by unfold prevT; rw [if_pos h0]
    generalize l.getD i z108 = s at *
    generalize prevT l i = p at *
    by_cases h1 : s.f0 < 0
    · rw [if_pos (show s.f0 ≤ p ∨ 64 ≤ s.f0 by omega)]
      exact Ev.step (f := fun _ => some 2) (fun k => by simp only [logjamref36_term.l0]; rw [if_pos (by omega), if_pos (by omega), hrd, if_pos h1]) (Ev.now _)
    by_cases h2 : s.f0 > 63
    · rw [if_pos (show s.f0 ≤ p ∨ 64 ≤ s.f0 by omega)]
      exact Ev.step (f := fun _ => some 2) (fun k => by simp only [logjamref36_term.l0]; rw [if_pos (by omega), if_pos (by omega), hrd, if_neg h1, if_pos h2]) (Ev.now _)
    by_cases h3 : 0 < i
    · obtain ⟨e1, e2⟩ := hpv h3
      by_cases h4 : s.f0 ≤ p
      · rw [if_pos (show s.f0 ≤ p ∨ 64 ≤ s.f0 by omega)]
        exact Ev.step (f := fun _ => some 2) (fun k => by simp only [logjamref36_term.l0]; rw [if_pos (by omega), if_pos (by omega), hrd, if_neg h1, if_neg h2, if_pos (by omega), e1, if_pos (by omega), if_pos (by omega), e2, if_pos h4]) (Ev.now _)
      · rw [if_neg (show ¬ (s.f0 ≤ p ∨ 64 ≤ s.f0) by omega)]
        exact Ev.step (f := fun k => logjamref36_term.l0 k ((i + 1 : Nat) : Int) K l) (fun k => by simp only [logjamref36_term.l0]; rw [if_pos (by omega), if_pos (by omega), hrd, if_neg h1, if_neg h2, if_pos (by omega), e1, if_pos (by omega), if_pos (by omega), e2, if_neg h4, hwr]) (ih' (by omega))
    · have := hpz (by omega)
      rw [if_neg (show ¬ (s.f0 ≤ p ∨ 64 ≤ s.f0) by omega)]
      exact Ev.step (f := fun k => logjamref36_term.l0 k ((i + 1 : Nat) : Int) K l) (fun k => by simp only [logjamref36_term.l0]; rw [if_pos (by omega), if_pos (by omega), hrd, if_neg h1, if_neg h2, if_neg (by omega), hwr]) (ih' (by omega))
theorem ev_rterm (m : NTerm) (hl : m.f1.length ≤ MX) : Ev (fun k => logjamref36_term.f k m.f0 m.f1) (termC m) := by
  unfold logjamref36_term.f termC
  rw [runits_f]
  cases hu : unitsB m.f0
  · exact Ev.congr (f := fun _ => some 1) (fun k => by simp) (Ev.now _)
  · refine Ev.congr (f := fun k => logjamref36_term.l0 k 0 m.f0 m.f1) (fun k => by simp) ?_
    rw [if_pos rfl, termL_eq _ _ _ (.inl rfl)]
    exact ev_rterm_l0 m.f0 m.f1 hl m.f1.length 0 (by omega) (by unfold prevT; simp)
theorem ev_rchk_l3 (time : Int) (dd : List Int) (n : List NNode) (a b : Int) (st : Bool) (ws : List (List NTerm)) (hb0 : 0 ≤ b) (hb1 : b < ws.length) (hw : Bw (rd_L5 ws b)) (r : Int) : ∀ (d i : Nat), i + d = (rd_L5 ws b).length →
    (termsC ((rd_L5 ws b).drop i) ≠ 0 → r = termsC ((rd_L5 ws b).drop i)) → (termsC ((rd_L5 ws b).drop i) = 0 → Ev (fun k => logjamref36_Check.l2 k a (wrap64 (b + 1)) time dd n st ws) r) →
    Ev (fun k => logjamref36_Check.l3 k a b i time dd n st ws) r := by
  intro d
  induction d with
  | zero =>
    intro i hi h1 h2
    rw [List.drop_of_length_le (by omega)] at h1 h2
    exact Ev.step (f := fun k => logjamref36_Check.l2 k a (wrap64 (b + 1)) time dd n st ws) (fun k => by simp only [logjamref36_Check.l3]; rw [if_pos hb0, if_pos hb1, if_neg (by omega)]) (h2 rfl)
  | succ d ih =>
    intro i hi h1 h2
    have ih' := ih (i + 1) (by omega)
    have hdr := drop_cons' z96 (rd_L5 ws b) i (by omega)
    rw [hdr, termsC_cons] at h1 h2
    have hwr := wrap_succ i (rd_L5 ws b).length (by omega) hw.1
    have hrd : rd_T96 (rd_L5 ws b) (i : Int) = (rd_L5 ws b).getD i z96 := rfl
    have hme := ev_rterm _ (hw.2 _ (getD_mem z96 (rd_L5 ws b) i (by omega)))
    have hlt : (i : Int) < ((rd_L5 ws b).length : Int) := by omega
    generalize (rd_L5 ws b).getD i z96 = m at *
    refine Ev.step (f := fun k => (logjamref36_term.f k m.f0 m.f1).bind fun t => if t = 0 then logjamref36_Check.l3 k a b ((i + 1 : Nat) : Int) time dd n st ws else some t) (fun k => by simp only [logjamref36_Check.l3]; rw [if_pos hb0, if_pos hb1, if_pos hlt, if_pos (by omega), hrd, hwr]) ?_
    refine Ev.bind hme ?_
    by_cases ht : termC m = 0
    · rw [if_pos ht] at h1 h2
      exact Ev.congr (f := fun k => logjamref36_Check.l3 k a b ((i + 1 : Nat) : Int) time dd n st ws) (fun k => by rw [if_pos ht]) (ih' h1 h2)
    · rw [if_neg ht] at h1 h2
      rw [h1 ht]
      exact Ev.congr (f := fun _ => some (termC m)) (fun k => by rw [if_neg ht]) (Ev.now _)
theorem ev_rchk_l2 (time : Int) (dd : List Int) (n : List NNode) (a : Int) (st : Bool) (ws : List (List NTerm)) (hw : Bws ws) (r : Int) : ∀ (d i : Nat), i + d = ws.length →
    (waysC (ws.drop i) ≠ 0 → r = waysC (ws.drop i)) → (waysC (ws.drop i) = 0 → Ev (fun k => logjamref36_Check.l1 k (wrap64 (a + 1)) time dd n) r) →
    Ev (fun k => logjamref36_Check.l2 k a i time dd n st ws) r := by
  intro d
  induction d with
  | zero =>
    intro i hi h1 h2
    rw [List.drop_of_length_le (by omega)] at h1 h2
    exact Ev.step (f := fun k => logjamref36_Check.l1 k (wrap64 (a + 1)) time dd n) (fun k => by simp only [logjamref36_Check.l2]; rw [if_neg (by omega)]) (h2 rfl)
  | succ d ih =>
    intro i hi h1 h2
    have ih' := ih (i + 1) (by omega)
    have hdr := drop_cons' [] ws i (by omega)
    rw [hdr, waysC_cons] at h1 h2
    have hwr := wrap_succ i ws.length (by omega) hw.1
    have hrd : rd_L5 ws (i : Int) = ws.getD i [] := rfl
    have hB := hw.2 _ (getD_mem [] ws i (by omega))
    by_cases h : 256 < (ws.getD i []).length
    · rw [if_pos h] at h1
      rw [h1 (by decide)]
      exact Ev.step (f := fun _ => some 4) (fun k => by simp only [logjamref36_Check.l2]; rw [if_pos (by omega), if_pos (by omega), hrd, if_pos (by omega)]) (Ev.now _)
    · rw [if_neg h] at h1 h2
      refine Ev.step (f := fun k => logjamref36_Check.l3 k a i 0 time dd n st ws) (fun k => by simp only [logjamref36_Check.l2]; rw [if_pos (by omega), if_pos (by omega), hrd, if_neg (by omega)]) ?_
      refine ev_rchk_l3 time dd n a i st ws (by omega) (by omega) (by rw [hrd]; exact hB) r (rd_L5 ws i).length 0 (by omega) ?_ ?_
      · intro q
        rw [List.drop_zero, hrd] at *
        rw [if_neg q] at h1
        exact h1 q
      · intro q
        rw [List.drop_zero, hrd] at q
        rw [if_pos q] at h1 h2
        rw [hwr]
        exact ih' h1 h2
theorem ev_rchk_l1 (time : Int) (dd : List Int) (n : List NNode) (hb : Bns n) : ∀ (d i : Nat), i + d = n.length → Ev (fun k => logjamref36_Check.l1 k i time dd n) (nodesC (n.drop i)) := by
  intro d
  induction d with
  | zero =>
    intro i hi
    rw [List.drop_of_length_le (by omega)]
    exact Ev.step (f := fun _ => some 0) (fun k => by simp only [logjamref36_Check.l1]; rw [if_neg (by omega)]) (Ev.now _)
  | succ d ih =>
    intro i hi
    rw [drop_cons' z92 n i (by omega), nodesC_cons]
    have hwr := wrap_succ i n.length (by omega) hb.1
    have hrd : rd_T92 n (i : Int) = n.getD i z92 := rfl
    have hB := hb.2 _ (getD_mem z92 n i (by omega))
    have ih' := ih (i + 1) (by omega)
    generalize n.getD i z92 = x at *
    unfold nodeC
    cases hst : x.f0
    · exact Ev.step (f := fun _ => some 2) (fun k => by simp only [logjamref36_Check.l1]; rw [if_pos (by omega), if_pos (by omega), hrd, hst]; rfl) (Ev.now _)
    · simp only [if_true]
      by_cases h4 : 4 < x.f1.length
      · rw [if_pos h4]
        exact Ev.step (f := fun _ => some 4) (fun k => by simp only [logjamref36_Check.l1]; rw [if_pos (by omega), if_pos (by omega), hrd, hst, if_pos rfl, if_pos (by omega)]) (Ev.now _)
      · rw [if_neg h4]
        refine Ev.step (f := fun k => logjamref36_Check.l2 k i 0 time dd n true x.f1) (fun k => by simp only [logjamref36_Check.l1]; rw [if_pos (by omega), if_pos (by omega), hrd, hst, if_pos rfl, if_neg (by omega)]) ?_
        refine ev_rchk_l2 time dd n i true x.f1 hB _ x.f1.length 0 (by omega) ?_ ?_
        · intro q; rw [List.drop_zero] at *; rw [if_neg q]
        · intro q; rw [List.drop_zero] at q; rw [if_pos q, hwr]; exact ih'
def prevD (l : List Int) (i : Nat) : Int := if i = 0 then -1 else l.getD (i - 1) 0
theorem ev_rchk_l0 (time : Int) (dd : List Int) (hd : dd.length ≤ MX) (n : List NNode) (hb : Bns n) : ∀ (d i : Nat), i + d = dd.length → -1 ≤ prevD dd i → Ev (fun k => logjamref36_Check.l0 k i time dd n) (if deadC (prevD dd i) (dd.drop i) then nodesC n else 2) := by
  intro d
  induction d with
  | zero =>
    intro i hi _
    rw [List.drop_of_length_le (by omega)]
    refine Ev.step (f := fun k => logjamref36_Check.l1 k 0 time dd n) (fun k => by simp only [logjamref36_Check.l0]; rw [if_neg (by omega)]) ?_
    exact ev_rchk_l1 time dd n hb n.length 0 (by omega)
  | succ d ih =>
    intro i hi hge
    rw [drop_cons' 0 dd i (by omega), deadC_cons]
    have hwr := wrap_succ i dd.length (by omega) hd
    have hrd : rd dd (i : Int) = dd.getD i 0 := rfl
    have hp : prevD dd (i + 1) = dd.getD i 0 := by unfold prevD; simp
    have ih' := ih (i + 1) (by omega)
    rw [hp] at ih'
    have hpv : 0 < i → wrap64 ((i : Int) - 1) = ((i - 1 : Nat) : Int) ∧ rd dd ((i - 1 : Nat) : Int) = prevD dd i := fun h0 => ⟨wrap_pred i dd.length (by omega) hd h0, by unfold prevD; rw [if_neg (by omega)]; rfl⟩
    have hpz : i = 0 → prevD dd i = -1 := fun h0 => by unfold prevD; rw [if_pos h0]
    generalize dd.getD i 0 = t at *
    generalize prevD dd i = p at *
    by_cases h1 : t < 0
    · rw [if_pos (show t ≤ p ∨ 64 ≤ t by omega)]
      exact Ev.step (f := fun _ => some 2) (fun k => by simp only [logjamref36_Check.l0]; rw [if_pos (by omega), if_pos (by omega), hrd, if_pos h1]) (Ev.now _)
    by_cases h2 : t > 63
    · rw [if_pos (show t ≤ p ∨ 64 ≤ t by omega)]
      exact Ev.step (f := fun _ => some 2) (fun k => by simp only [logjamref36_Check.l0]; rw [if_pos (by omega), if_pos (by omega), hrd, if_neg h1, if_pos h2]) (Ev.now _)
    by_cases h3 : 0 < i
    · obtain ⟨e1, e2⟩ := hpv h3
      by_cases h4 : t ≤ p
      · rw [if_pos (show t ≤ p ∨ 64 ≤ t by omega)]
        exact Ev.step (f := fun _ => some 2) (fun k => by simp only [logjamref36_Check.l0]; rw [if_pos (by omega), if_pos (by omega), hrd, if_neg h1, if_neg h2, if_pos (by omega), e1, if_pos (by omega), if_pos (by omega), e2, if_pos h4]) (Ev.now _)
      · rw [if_neg (show ¬ (t ≤ p ∨ 64 ≤ t) by omega)]
        exact Ev.step (f := fun k => logjamref36_Check.l0 k ((i + 1 : Nat) : Int) time dd n) (fun k => by simp only [logjamref36_Check.l0]; rw [if_pos (by omega), if_pos (by omega), hrd, if_neg h1, if_neg h2, if_pos (by omega), e1, if_pos (by omega), if_pos (by omega), e2, if_neg h4, hwr]) (ih' (by omega))
    · have := hpz (by omega)
      rw [if_neg (show ¬ (t ≤ p ∨ 64 ≤ t) by omega)]
      exact Ev.step (f := fun k => logjamref36_Check.l0 k ((i + 1 : Nat) : Int) time dd n) (fun k => by simp only [logjamref36_Check.l0]; rw [if_pos (by omega), if_pos (by omega), hrd, if_neg h1, if_neg h2, if_neg (by omega), hwr]) (ih' (by omega))
theorem ev_rchk (time : Int) (dd : List Int) (hd : dd.length ≤ MX) (n : List NNode) (hb : Bns n) : Ev (fun k => logjamref36_Check.f k time dd n) (chkR time dd n) := by
  unfold logjamref36_Check.f chkR
  by_cases h0 : time < 0
  · rw [if_pos (.inl h0)]
    refine Ev.congr (f := fun k => logjamref36_Check.j0 k true time dd n) (fun k => by rw [if_pos h0]) ?_
    exact Ev.step (f := fun _ => some 1) (fun k => by simp only [logjamref36_Check.j0]; rfl) (Ev.now _)
  · refine Ev.congr (f := fun k => logjamref36_Check.j0 k (decide (time > 1073741824)) time dd n) (fun k => by rw [if_neg h0]) ?_
    by_cases h1 : time > 1073741824
    · rw [if_pos (.inr h1), decide_eq_true h1]
      exact Ev.step (f := fun _ => some 1) (fun k => by simp only [logjamref36_Check.j0]; rfl) (Ev.now _)
    · rw [if_neg (by omega), decide_eq_false h1]
      by_cases h2 : dd.length = n.length
      · rw [if_neg (by omega)]
        exact Ev.step (f := fun k => logjamref36_Check.l0 k 0 time dd n) (fun k => by simp only [logjamref36_Check.j0]; rw [if_neg (by simp), if_pos (by omega)]) (ev_rchk_l0 time dd hd n hb dd.length 0 (by omega) (by unfold prevD; simp))
      · rw [if_pos h2]
        exact Ev.step (f := fun _ => some 2) (fun k => by simp only [logjamref36_Check.j0]; rw [if_neg (by simp), if_neg (by omega)]) (Ev.now _)
end Go.Proofs.YtadepdeckapgcaaDoor
end

section
namespace Go.Proofs.YtadepdeckapgcaaDoor.PWitnessTells
open Go.RowKit Go.Proofs.YtadepdeckapgcaaDoorW.PrintWords Go.Proofs.YtadepdeckapgcaaDoorW.PrintLast Go.Proofs.YtadepdeckapgcaaDoorW.PrintMore
attribute [local go_sem] max2_int min2_int max_two min_two max_three min_three max_four min_four
set_option linter.unusedVariables false
set_option linter.unusedSimpArgs false
def logjamref37_find.l0 : Nat → Int → Int → Int → List Int → List (S92) → Option (Int)
 | 0, _, _, _, _, _ => none
 | k + 1, x1, x5, x218000, x218001, x218002 => if x5 < (x218001.length : Int) then (if 0 ≤ x5 then (if (rd x218001 x5) = x1 then (some x5) else (logjamref37_find.l0 k x1 (wrap64 (x5 + 1)) x218000 x218001 x218002)) else (none)) else (some (-1))
def logjamref37_find.f (k : Nat) (a0_0 : Int) (l0_1 : List Int) (l0_2 : List (S92)) (a1 : Int) : Option (Int) := logjamref37_find.l0 k a1 0 a0_0 l0_1 l0_2
set_option maxHeartbeats 8000000 in
set_option maxRecDepth 100000 in
theorem logjamref37_find.calls (k : Nat) (a0_0 : Int) (A0_1 : Option Addr) (c0_1 : Nat) (l0_1 : List Int) (A0_2 : Option Addr) (c0_2 : Nat) (l0_2 : List (S92)) (a1 : Int) (r : Int) (w : World) (hr0_1 : Kd.C (Kd.int .i64) w A0_1 l0_1.length l0_1) (hc0_1 : l0_1.length ≤ c0_1) (hr0_2 : Kd.C k92 w A0_2 l0_2.length l0_2) (hc0_2 : l0_2.length ≤ c0_2) (h : logjamref37_find.f k a0_0 l0_1 l0_2 a1 = some r) :
  Calls Tryd.prog 58 #[.agg #[.int .i64 a0_0, .slice A0_1 l0_1.length c0_1, .slice A0_2 l0_2.length c0_2], .int .i64 a1] w fun e w' => e = .returned (.int .i64 r) ∧ Below w.heap.size w w' := by
 have hu25 := Tryd.underlying25
 have HR0_1 := Aside0.mk hr0_1
 have HC0_1 := Aside0.mk hc0_1
 clear hr0_1 hc0_1
 have HR0_2 := Aside0.mk hr0_2
 have HC0_2 := Aside0.mk hc0_2
 clear hr0_2 hc0_2
 have HB := Aside0.mk (Below.refl w.heap.size w)
 have H : (logjamref37_find.l0 k a1 0 a0_0 l0_1 l0_2) = some r := h
 clear h
 have H' := Aside0.mk H
 clear H
 go_enter Tryd.func58, Tryd.ntmps58
 go_wp2_with (first | ((with_reducible refine gate_dst (N := 2) rfl ?_); refine box_event ?hg (N := 2) ?hd (cs := #[.int .i64 a0_0, .slice A0_1 l0_1.length c0_1, .slice A0_2 l0_2.length c0_2]) (t := 25) ?hr ?_; (case hd => rfl); (case hg => rfl); (case hr => first | (go_simp; done) | (go_simp; rfl)); intro gb217 hg w3 hbox hb; have n0_ := Aside0.mk (below_step (by repeat (first | (with_reducible first | exact HB.out | apply below_alloc | apply pw_below_drewN | apply below_drew1) | exact HB.out)) hb); have n1_ := Aside0.mk (hbox); have n2_ := Aside0.mk ((by rw [hg]; exact (below_size (by repeat (first | (with_reducible first | exact HB.out | apply below_alloc | apply pw_below_drewN | apply below_drew1) | exact HB.out))) : w.heap.size ≤ gb217)); have n3_ := Aside0.mk ((by rw [hg]; exact (below_size (by repeat (first | (with_reducible first | exact HB.out | apply below_alloc | apply pw_below_drewN | apply below_drew1) | exact HB.out))) : w.heap.size ≤ gb217)); clear HB; have HB := n0_; have BK217 := n1_; have GW217 := n2_; have GE217 := n3_; clear n0_ n1_ n2_ n3_; clear hb hbox hg))
 go_loopg [5] k (fun kq v5 w' => ∃ (x5_1 : Int), v5 = .int .i64 x5_1 ∧ Aside0 (logjamref37_find.l0 kq a1 x5_1 a0_0 l0_1 l0_2 = some r) ∧ Aside0 (kq ≤ k) ∧ Aside0 (w'.heap[gb217]? = some (.cells #[.int .i64 a0_0, (.slice A0_1 l0_1.length c0_1), (.slice A0_2 l0_2.length c0_2)] 25 (0, 0))) ∧ Aside0 (Below w.heap.size w w'))
 case atStart => exact ⟨(0), (by first | rfl | (simp; done) | (simp [*]; done)), H', ⟨Nat.le_refl _⟩, ⟨by (with_reducible repeat (first | refine blk_drewN ?_ _ | refine blk_drew ?_ | refine blk_alloc ?_ _)); exact BK217.out⟩, ⟨by repeat (first | (with_reducible first | exact HB.out | apply below_alloc | apply pw_below_drewN | apply below_drew1 | refine below_set ?_ GE217.out) | exact HB.out)⟩⟩
 case round =>
  clear H'
  try clear p2
  obtain ⟨x5_1, rfl, HA, HK1, BK217, HB⟩ := hrel
  cases gk with
  | zero => exact absurd HA.out (by simp [logjamref37_find.l0])
  | succ k1 =>
   have H := HA.out
   clear HA
   simp only [logjamref37_find.l0] at H
   by_cases c4 : x5_1 < (l0_1.length : Int)
   ·rw [if_pos c4] at H
    have c4b0 : decide (x5_1 < (l0_1.length : Int)) = true := decide_eq_true c4
    clear c4
    by_cases c5 : 0 ≤ x5_1
    ·rw [if_pos c5] at H
     have c5b0 : decide (0 ≤ x5_1) = true := decide_eq_true c5
     clear c5
     by_cases c6 : (rd l0_1 x5_1) = a1
     ·rw [if_pos c6] at H
      have c6b0 : ((rd l0_1 x5_1) == a1) = true := beq_iff_eq.mpr c6
      have c6b1 : ((rd l0_1 x5_1) != a1) = false := bne_eq_false_iff_eq.mpr c6
      clear c6
      obtain rfl := Option.some.inj H
      have hcz7_0 : wr.cell? ⟨gb217, 0, none⟩ = some (.int .i64 a0_0) := (blk_cell BK217.out 0).trans rfl
      have hcz7_1 : wr.cell? ⟨gb217, 1, none⟩ = some (.slice A0_1 l0_1.length c0_1) := (blk_cell BK217.out 1).trans rfl
      have hcz7_2 : wr.cell? ⟨gb217, 2, none⟩ = some (.slice A0_2 l0_2.length c0_2) := (blk_cell BK217.out 2).trans rfl
      have hfz7_0 := blk_frozen BK217.out 0
      have hfz7_1 := blk_frozen BK217.out 1
      have hfz7_2 := blk_frozen BK217.out 2
      have p218 : 0 ≤ (x5_1 : Int) := of_decide_eq_true (by first | (with_reducible assumption) | assumption)
      have q218 : x5_1 < (l0_1.length : Int) := of_decide_eq_true (by first | (with_reducible assumption) | assumption)
      obtain ⟨ad218, e218, hx218_0⟩ := Kd.at_int HR0_1.out x5_1 p218 q218
      cases e218
      replace hx218_0 := (HB.out.cell (World.block_lt_of_cell? w _ hx218_0)).trans hx218_0
      replace p218 := eq_true p218
      replace q218 := eq_true q218
      go_wp2
      go_ret
      exact ⟨by first | rfl | (simp [errW_none, errW_some] <;> rfl) | (simp [*, errW_none, errW_some] <;> rfl), by repeat (first | (with_reducible first | exact HB.out | apply below_alloc | apply pw_below_drewN | apply below_drew1 | refine below_set ?_ GE217.out) | exact HB.out)⟩
     ·rw [if_neg c6] at H
      have c6b0 : ((rd l0_1 x5_1) == a1) = false := beq_eq_false_iff_ne.mpr c6
      have c6b1 : ((rd l0_1 x5_1) != a1) = true := bne_iff_ne.mpr c6
      have H' := Aside0.mk H
      clear H
      have hcz8_0 : wr.cell? ⟨gb217, 0, none⟩ = some (.int .i64 a0_0) := (blk_cell BK217.out 0).trans rfl
      have hcz8_1 : wr.cell? ⟨gb217, 1, none⟩ = some (.slice A0_1 l0_1.length c0_1) := (blk_cell BK217.out 1).trans rfl
      have hcz8_2 : wr.cell? ⟨gb217, 2, none⟩ = some (.slice A0_2 l0_2.length c0_2) := (blk_cell BK217.out 2).trans rfl
      have hfz8_0 := blk_frozen BK217.out 0
      have hfz8_1 := blk_frozen BK217.out 1
      have hfz8_2 := blk_frozen BK217.out 2
      have p218 : 0 ≤ (x5_1 : Int) := of_decide_eq_true (by first | (with_reducible assumption) | assumption)
      have q218 : x5_1 < (l0_1.length : Int) := of_decide_eq_true (by first | (with_reducible assumption) | assumption)
      obtain ⟨ad218, e218, hx218_0⟩ := Kd.at_int HR0_1.out x5_1 p218 q218
      cases e218
      replace hx218_0 := (HB.out.cell (World.block_lt_of_cell? w _ hx218_0)).trans hx218_0
      replace p218 := eq_true p218
      replace q218 := eq_true q218
      go_wp2
      go_roundg k1
      case measure => have := HK1.out; omega
      case rel => exact ⟨(wrap64 (x5_1 + 1)), (by first | rfl | (simp; done) | (simp [*]; done)), H', ⟨by have := HK1.out; omega⟩, ⟨by (with_reducible repeat (first | refine blk_drewN ?_ _ | refine blk_drew ?_ | refine blk_alloc ?_ _)); exact BK217.out⟩, ⟨by repeat (first | (with_reducible first | exact HB.out | apply below_alloc | apply pw_below_drewN | apply below_drew1 | refine below_set ?_ GE217.out) | exact HB.out)⟩⟩
    ·rw [if_neg c5] at H
     exact absurd H (by simp)
   ·rw [if_neg c4] at H
    have c4b0 : decide (x5_1 < (l0_1.length : Int)) = false := decide_eq_false c4
    clear c4
    obtain rfl := Option.some.inj H
    have hcz9_0 : wr.cell? ⟨gb217, 0, none⟩ = some (.int .i64 a0_0) := (blk_cell BK217.out 0).trans rfl
    have hcz9_1 : wr.cell? ⟨gb217, 1, none⟩ = some (.slice A0_1 l0_1.length c0_1) := (blk_cell BK217.out 1).trans rfl
    have hcz9_2 : wr.cell? ⟨gb217, 2, none⟩ = some (.slice A0_2 l0_2.length c0_2) := (blk_cell BK217.out 2).trans rfl
    have hfz9_0 := blk_frozen BK217.out 0
    have hfz9_1 := blk_frozen BK217.out 1
    have hfz9_2 := blk_frozen BK217.out 2
    go_wp2
    go_ret
    exact ⟨by first | rfl | (simp [errW_none, errW_some] <;> rfl) | (simp [*, errW_none, errW_some] <;> rfl), by repeat (first | (with_reducible first | exact HB.out | apply below_alloc | apply pw_below_drewN | apply below_drew1 | refine below_set ?_ GE217.out) | exact HB.out)⟩
mutual
def logjamref37_Lacks.l0 : Nat → List (S96) → Int → Int → Option (Int)
 | 0, _, _, _ => none
 | k + 1, x0, x1, x5 => if x5 < (x0.length : Int) then (logjamref37_Lacks.l1 k x0 x1 x5 0 0) else (some (-1))
def logjamref37_Lacks.l1 : Nat → List (S96) → Int → Int → Int → Int → Option (Int)
 | 0, _, _, _, _, _ => none
 | k + 1, x0, x1, x5, x6, x7 => if 0 ≤ x5 then (if x5 < (x0.length : Int) then (if x7 < (((rd_T96 x0 x5).f1).length : Int) then (if 0 ≤ x7 then ((logjamref02_Has.f k x1 ((rd_T108 ((rd_T96 x0 x5).f1) x7).f0)).bind fun t222 => (if t222 = true then (logjamref37_Lacks.l1 k x0 x1 x5 x6 (wrap64 (x7 + 1))) else (logjamref37_Lacks.l1 k x0 x1 x5 (wrap64 (x6 + ((rd_T108 ((rd_T96 x0 x5).f1) x7).f1))) (wrap64 (x7 + 1))))) else (none)) else (if x6 < ((rd_T96 x0 x5).f0) then (some x5) else (logjamref37_Lacks.l0 k x0 x1 (wrap64 (x5 + 1))))) else (none)) else (none)
end
def logjamref37_Lacks.f (k : Nat) (l0 : List (S96)) (a1 : Int) : Option (Int) := logjamref37_Lacks.l0 k l0 a1 0
set_option maxHeartbeats 8000000 in
set_option maxRecDepth 100000 in
theorem logjamref37_Lacks.calls (k : Nat) (A0 : Option Addr) (c0 : Nat) (l0 : List (S96)) (a1 : Int) (r : Int) (w : World) (hr0 : Kd.C k96 w A0 l0.length l0) (hc0 : l0.length ≤ c0) (h : logjamref37_Lacks.f k l0 a1 = some r) :
  Calls Tryd.prog 59 #[.slice A0 l0.length c0, .int .u64 a1] w fun e w' => e = .returned (.int .i64 r) ∧ Drawn0 w w' := by
 have HR0 := Aside0.mk hr0
 have HC0 := Aside0.mk hc0
 clear hr0 hc0
 have H : (logjamref37_Lacks.l0 k l0 a1 0) = some r := h
 clear h
 have H' := Aside0.mk H
 clear H
 go_enter Tryd.func59, Tryd.ntmps59
 go_wp2
 go_loopg [5] k (fun kq v5 w' => ∃ (x5_1 : Int), v5 = .int .i64 x5_1 ∧ Aside0 (logjamref37_Lacks.l0 kq l0 a1 x5_1 = some r) ∧ Aside0 (kq ≤ k) ∧ Drawn0 w w')
 case atStart => exact ⟨(0), (by first | rfl | (simp; done) | (simp [*]; done)), H', ⟨Nat.le_refl _⟩, by repeat (first | exact Drawn0.refl _ | apply Drawn0.step)⟩
 case round =>
  clear H'
  try clear p2
  obtain ⟨x5_1, rfl, HA, HK1, ⟨m1, rfl⟩⟩ := hrel
  cases gk with
  | zero => exact absurd HA.out (by simp [logjamref37_Lacks.l0])
  | succ k1 =>
   have H := HA.out
   clear HA
   simp only [logjamref37_Lacks.l0] at H
   by_cases c3 : x5_1 < (l0.length : Int)
   ·rw [if_pos c3] at H
    have c3b0 : decide (x5_1 < (l0.length : Int)) = true := decide_eq_true c3
    clear c3
    have H' := Aside0.mk H
    clear H
    go_wp2
    go_loopg [6, 7] k1 (fun kq v6 v7 w' => ∃ (x6_2 : Int) (x7_2 : Int), v6 = .int .i64 x6_2 ∧ v7 = .int .i64 x7_2 ∧ Aside0 (logjamref37_Lacks.l1 kq l0 a1 x5_1 x6_2 x7_2 = some r) ∧ Aside0 (kq ≤ k1) ∧ Drawn0 w w')
    case atStart => exact ⟨(0), (0), (by first | rfl | (simp; done) | (simp [*]; done)), (by first | rfl | (simp; done) | (simp [*]; done)), H', ⟨Nat.le_refl _⟩, by repeat (first | exact Drawn0.refl _ | apply Drawn0.step)⟩
    case round =>
     clear H'
     try clear p2
     try clear c3
     try clear c3b0
     try clear p2
     obtain ⟨x6_2, x7_2, rfl, rfl, HA, HK2, ⟨m2, rfl⟩⟩ := hrel
     cases gk with
     | zero => exact absurd HA.out (by simp [logjamref37_Lacks.l1])
     | succ k2 =>
      have H := HA.out
      clear HA
      simp only [logjamref37_Lacks.l1] at H
      by_cases c4 : 0 ≤ x5_1
      ·rw [if_pos c4] at H
       have c4b0 : decide (0 ≤ x5_1) = true := decide_eq_true c4
       clear c4
       by_cases c5 : x5_1 < (l0.length : Int)
       ·rw [if_pos c5] at H
        have c5b0 : decide (x5_1 < (l0.length : Int)) = true := decide_eq_true c5
        clear c5
        by_cases c6 : x7_2 < (((rd_T96 l0 x5_1).f1).length : Int)
        ·rw [if_pos c6] at H
         have c6b0 : decide (x7_2 < (((rd_T96 l0 x5_1).f1).length : Int)) = true := decide_eq_true c6
         clear c6
         by_cases c7 : 0 ≤ x7_2
         ·rw [if_pos c7] at H
          have c7b0 : decide (0 ≤ x7_2) = true := decide_eq_true c7
          clear c7
          replace H := Option.bind_eq_some_iff.mp H
          obtain ⟨t222, A80, H⟩ := H
          replace H : (if t222 = true then (logjamref37_Lacks.l1 k2 l0 a1 x5_1 x6_2 (wrap64 (x7_2 + 1))) else (logjamref37_Lacks.l1 k2 l0 a1 x5_1 (wrap64 (x6_2 + ((rd_T108 ((rd_T96 l0 x5_1).f1) x7_2).f1))) (wrap64 (x7_2 + 1)))) = some r := H
          have A8 := Aside0.mk A80
          clear A80
          by_cases c9 : t222 = true
          ·subst c9
           have H1 : (logjamref37_Lacks.l1 k2 l0 a1 x5_1 x6_2 (wrap64 (x7_2 + 1))) = some r := by rw [if_pos rfl] at H; exact H
           clear H
           have H := H1
           clear H1
           have H' := Aside0.mk H
           clear H
           have p219 : 0 ≤ (x5_1 : Int) := of_decide_eq_true (by first | (with_reducible assumption) | assumption)
           have q219 : x5_1 < (l0.length : Int) := of_decide_eq_true (by first | (with_reducible assumption) | assumption)
           obtain ⟨ad219, A219_1, c219_1, e219, hx219_0, hx219_1, hl219_1, hi219_1⟩ := at_T96 HR0.out x5_1 p219 q219
           cases e219
           have HR219_1 := Aside0.mk hi219_1
           have HC219_1 := Aside0.mk hl219_1
           clear hi219_1 hl219_1
           replace p219 := eq_true p219
           replace q219 := eq_true q219
           have p220 : 0 ≤ (x5_1 : Int) := of_decide_eq_true (by first | (with_reducible assumption) | assumption)
           have q220 : x5_1 < (l0.length : Int) := of_decide_eq_true (by first | (with_reducible assumption) | assumption)
           obtain ⟨ad220, A220_1, c220_1, e220, hx220_0, hx220_1, hl220_1, hi220_1⟩ := at_T96 HR0.out x5_1 p220 q220
           obtain rfl : ad219 = ad220 := (by injection e220)
           have HR220_1 := Aside0.mk hi220_1
           have HC220_1 := Aside0.mk hl220_1
           clear hi220_1 hl220_1
           replace p220 := eq_true p220
           replace q220 := eq_true q220
           have ea_ := Option.some.inj (hx219_1.symm.trans hx220_1)
           injection ea_ with ea_ en_ ec_
           subst ea_
           subst ec_
           clear en_
           have p221 : 0 ≤ (x7_2 : Int) := of_decide_eq_true (by first | (with_reducible assumption) | assumption)
           have q221 : x7_2 < (((rd_T96 l0 x5_1).f1).length : Int) := of_decide_eq_true (by first | (with_reducible assumption) | assumption)
           obtain ⟨ad221, e221, hx221_0, hx221_1⟩ := at_T108 HR220_1.out x7_2 p221 q221
           cases e221
           replace p221 := eq_true p221
           replace q221 := eq_true q221
           go_wp2_with (first | ((with_reducible refine gate_callee (f := 29) rfl ?_); refine goesL_ (some 34) rfl rfl Tryd.func29 (by kernel_rfl) rfl #[.int .u64 a1, .int .i64 ((rd_T108 ((rd_T96 l0 x5_1).f1) x7_2).f0)] rfl (by (try simp only [List.map_toArray, List.map_cons, List.map_nil]); first | done | rfl | (simp only [List.length_drop, List.length_take]; rfl)) ?_; (with_reducible refine (logjamref02_Has.calls k2 a1 ((rd_T108 ((rd_T96 l0 x5_1).f1) x7_2).f0) true _ A8.out).mono ?_); rintro e w' ⟨rfl, ⟨nd, rfl⟩⟩; refine ⟨_, rfl, ?_⟩))
           go_roundg k2
           case measure => have := HK1.out; have := HK2.out; omega
           case rel => exact ⟨(x6_2), (wrap64 (x7_2 + 1)), (by first | rfl | (simp; done) | (simp [*]; done)), (by first | rfl | (simp; done) | (simp [*]; done)), H', ⟨by have := HK1.out; have := HK2.out; omega⟩, by repeat (first | exact Drawn0.refl _ | apply Drawn0.step)⟩
          ·replace c9 := Bool.eq_false_iff.mpr c9
           subst c9
           have H1 : (logjamref37_Lacks.l1 k2 l0 a1 x5_1 (wrap64 (x6_2 + ((rd_T108 ((rd_T96 l0 x5_1).f1) x7_2).f1))) (wrap64 (x7_2 + 1))) = some r := by rw [if_neg (show ¬ (false = true) by decide)] at H; exact H
           clear H
           have H := H1
           clear H1
           have H' := Aside0.mk H
           clear H
           have p219 : 0 ≤ (x5_1 : Int) := of_decide_eq_true (by first | (with_reducible assumption) | assumption)
           have q219 : x5_1 < (l0.length : Int) := of_decide_eq_true (by first | (with_reducible assumption) | assumption)
           obtain ⟨ad219, A219_1, c219_1, e219, hx219_0, hx219_1, hl219_1, hi219_1⟩ := at_T96 HR0.out x5_1 p219 q219
           cases e219
           have HR219_1 := Aside0.mk hi219_1
           have HC219_1 := Aside0.mk hl219_1
           clear hi219_1 hl219_1
           replace p219 := eq_true p219
           replace q219 := eq_true q219
           have p220 : 0 ≤ (x5_1 : Int) := of_decide_eq_true (by first | (with_reducible assumption) | assumption)
           have q220 : x5_1 < (l0.length : Int) := of_decide_eq_true (by first | (with_reducible assumption) | assumption)
           obtain ⟨ad220, A220_1, c220_1, e220, hx220_0, hx220_1, hl220_1, hi220_1⟩ := at_T96 HR0.out x5_1 p220 q220
           obtain rfl : ad219 = ad220 := (by injection e220)
           have HR220_1 := Aside0.mk hi220_1
           have HC220_1 := Aside0.mk hl220_1
           clear hi220_1 hl220_1
           replace p220 := eq_true p220
           replace q220 := eq_true q220
           have ea_ := Option.some.inj (hx219_1.symm.trans hx220_1)
           injection ea_ with ea_ en_ ec_
           subst ea_
           subst ec_
           clear en_
           have p221 : 0 ≤ (x7_2 : Int) := of_decide_eq_true (by first | (with_reducible assumption) | assumption)
           have q221 : x7_2 < (((rd_T96 l0 x5_1).f1).length : Int) := of_decide_eq_true (by first | (with_reducible assumption) | assumption)
           obtain ⟨ad221, e221, hx221_0, hx221_1⟩ := at_T108 HR220_1.out x7_2 p221 q221
           cases e221
           replace p221 := eq_true p221
           replace q221 := eq_true q221
           go_wp2_with (first | ((with_reducible refine gate_callee (f := 29) rfl ?_); refine goesL_ (some 34) rfl rfl Tryd.func29 (by kernel_rfl) rfl #[.int .u64 a1, .int .i64 ((rd_T108 ((rd_T96 l0 x5_1).f1) x7_2).f0)] rfl (by (try simp only [List.map_toArray, List.map_cons, List.map_nil]); first | done | rfl | (simp only [List.length_drop, List.length_take]; rfl)) ?_; (with_reducible refine (logjamref02_Has.calls k2 a1 ((rd_T108 ((rd_T96 l0 x5_1).f1) x7_2).f0) false _ A8.out).mono ?_); rintro e w' ⟨rfl, ⟨nd, rfl⟩⟩; refine ⟨_, rfl, ?_⟩; have p223 : 0 ≤ (x5_1 : Int) := of_decide_eq_true (by first | (with_reducible assumption) | assumption); have q223 : x5_1 < (l0.length : Int) := of_decide_eq_true (by first | (with_reducible assumption) | assumption); obtain ⟨ad223, A223_1, c223_1, e223, hx223_0, hx223_1, hl223_1, hi223_1⟩ := at_T96 HR0.out x5_1 p223 q223; obtain rfl : ad219 = ad223 := (by injection e223); have HR223_1 := Aside0.mk hi223_1; have HC223_1 := Aside0.mk hl223_1; clear hi223_1 hl223_1; replace p223 := eq_true p223; replace q223 := eq_true q223; have ea_ := Option.some.inj (hx219_1.symm.trans hx223_1); injection ea_ with ea_ en_ ec_; subst ea_; subst ec_; clear en_; have p224 : 0 ≤ (x7_2 : Int) := of_decide_eq_true (by first | (with_reducible assumption) | assumption); have q224 : x7_2 < (((rd_T96 l0 x5_1).f1).length : Int) := of_decide_eq_true (by first | (with_reducible assumption) | assumption); obtain ⟨ad224, e224, hx224_0, hx224_1⟩ := at_T108 HR223_1.out x7_2 p224 q224; cases e224; replace p224 := eq_true p224; replace q224 := eq_true q224))
           go_roundg k2
           case measure => have := HK1.out; have := HK2.out; omega
           case rel => exact ⟨(wrap64 (x6_2 + ((rd_T108 ((rd_T96 l0 x5_1).f1) x7_2).f1))), (wrap64 (x7_2 + 1)), (by first | rfl | (simp; done) | (simp [*]; done)), (by first | rfl | (simp; done) | (simp [*]; done)), H', ⟨by have := HK1.out; have := HK2.out; omega⟩, by repeat (first | exact Drawn0.refl _ | apply Drawn0.step)⟩
         ·rw [if_neg c7] at H
          exact absurd H (by simp)
        ·rw [if_neg c6] at H
         have c6b0 : decide (x7_2 < (((rd_T96 l0 x5_1).f1).length : Int)) = false := decide_eq_false c6
         clear c6
         by_cases c10 : x6_2 < ((rd_T96 l0 x5_1).f0)
         ·rw [if_pos c10] at H
          have c10b0 : decide (x6_2 < ((rd_T96 l0 x5_1).f0)) = true := decide_eq_true c10
          clear c10
          obtain rfl := Option.some.inj H
          have p219 : 0 ≤ (x5_1 : Int) := of_decide_eq_true (by first | (with_reducible assumption) | assumption)
          have q219 : x5_1 < (l0.length : Int) := of_decide_eq_true (by first | (with_reducible assumption) | assumption)
          obtain ⟨ad219, A219_1, c219_1, e219, hx219_0, hx219_1, hl219_1, hi219_1⟩ := at_T96 HR0.out x5_1 p219 q219
          cases e219
          have HR219_1 := Aside0.mk hi219_1
          have HC219_1 := Aside0.mk hl219_1
          clear hi219_1 hl219_1
          replace p219 := eq_true p219
          replace q219 := eq_true q219
          have p225 : 0 ≤ (x5_1 : Int) := of_decide_eq_true (by first | (with_reducible assumption) | assumption)
          have q225 : x5_1 < (l0.length : Int) := of_decide_eq_true (by first | (with_reducible assumption) | assumption)
          obtain ⟨ad225, A225_1, c225_1, e225, hx225_0, hx225_1, hl225_1, hi225_1⟩ := at_T96 HR0.out x5_1 p225 q225
          obtain rfl : ad219 = ad225 := (by injection e225)
          have HR225_1 := Aside0.mk hi225_1
          have HC225_1 := Aside0.mk hl225_1
          clear hi225_1 hl225_1
          replace p225 := eq_true p225
          replace q225 := eq_true q225
          have ea_ := Option.some.inj (hx219_1.symm.trans hx225_1)
          injection ea_ with ea_ en_ ec_
          subst ea_
          subst ec_
          clear en_
          go_wp2
          go_ret
          exact ⟨by first | rfl | (simp; done) | (simp [*]; done), by repeat (first | exact Drawn0.refl _ | apply Drawn0.step)⟩
         ·rw [if_neg c10] at H
          have c10b0 : decide (x6_2 < ((rd_T96 l0 x5_1).f0)) = false := decide_eq_false c10
          clear c10
          have H' := Aside0.mk H
          clear H
          have p219 : 0 ≤ (x5_1 : Int) := of_decide_eq_true (by first | (with_reducible assumption) | assumption)
          have q219 : x5_1 < (l0.length : Int) := of_decide_eq_true (by first | (with_reducible assumption) | assumption)
          obtain ⟨ad219, A219_1, c219_1, e219, hx219_0, hx219_1, hl219_1, hi219_1⟩ := at_T96 HR0.out x5_1 p219 q219
          cases e219
          have HR219_1 := Aside0.mk hi219_1
          have HC219_1 := Aside0.mk hl219_1
          clear hi219_1 hl219_1
          replace p219 := eq_true p219
          replace q219 := eq_true q219
          have p225 : 0 ≤ (x5_1 : Int) := of_decide_eq_true (by first | (with_reducible assumption) | assumption)
          have q225 : x5_1 < (l0.length : Int) := of_decide_eq_true (by first | (with_reducible assumption) | assumption)
          obtain ⟨ad225, A225_1, c225_1, e225, hx225_0, hx225_1, hl225_1, hi225_1⟩ := at_T96 HR0.out x5_1 p225 q225
          obtain rfl : ad219 = ad225 := (by injection e225)
          have HR225_1 := Aside0.mk hi225_1
          have HC225_1 := Aside0.mk hl225_1
          clear hi225_1 hl225_1
          replace p225 := eq_true p225
          replace q225 := eq_true q225
          have ea_ := Option.some.inj (hx219_1.symm.trans hx225_1)
          injection ea_ with ea_ en_ ec_
          subst ea_
          subst ec_
          clear en_
          go_wp2
          go_roundg k2
          case measure => have := HK1.out; have := HK2.out; omega
          case rel => exact ⟨(wrap64 (x5_1 + 1)), (by first | rfl | (simp; done) | (simp [*]; done)), H', ⟨by have := HK1.out; have := HK2.out; omega⟩, by repeat (first | exact Drawn0.refl _ | apply Drawn0.step)⟩
       ·rw [if_neg c5] at H
        exact absurd H (by simp)
      ·rw [if_neg c4] at H
       exact absurd H (by simp)
   ·rw [if_neg c3] at H
    have c3b0 : decide (x5_1 < (l0.length : Int)) = false := decide_eq_false c3
    clear c3
    obtain rfl := Option.some.inj H
    go_wp2
    go_ret
    exact ⟨by first | rfl | (simp; done) | (simp [*]; done), by repeat (first | exact Drawn0.refl _ | apply Drawn0.step)⟩
def logjamref37_Lack.j0 : Nat → Int → Bool → Int → List Int → List (S92) → Option (Int)
 | 0, _, _, _, _, _ => none
 | k + 1, x5, x23, x227000, x227001, x227002 => if x23 = true then (some (-1)) else (if 0 ≤ x5 then (if x5 < (x227002.length : Int) then (if 0 < (((rd_T92 x227002 x5).f1).length : Int) then ((logjamref02_Of.f k x227001).bind fun t232 => ((logjamref37_Lacks.f k (rd_L5 ((rd_T92 x227002 x5).f1) 0) t232).bind fun t233 => (some t233))) else (none)) else (none)) else (none))
def logjamref37_Lack.f (k : Nat) (a0_0 : Int) (l0_1 : List Int) (l0_2 : List (S92)) (a1 : Int) : Option (Int) := (logjamref36_Check.f k a0_0 l0_1 l0_2).bind fun t227 => (if t227 = 0 then ((logjamref37_find.f k a0_0 l0_1 l0_2 a1).bind fun t228 => (if t228 < 0 then (logjamref37_Lack.j0 k t228 true a0_0 l0_1 l0_2) else (if 0 ≤ t228 then (if t228 < (l0_2.length : Int) then (logjamref37_Lack.j0 k t228 ((((rd_T92 l0_2 t228).f1).length : Int) == 0) a0_0 l0_1 l0_2) else (none)) else (none)))) else (some (-1)))
set_option maxHeartbeats 8000000 in
set_option maxRecDepth 100000 in
theorem logjamref37_Lack.calls (k : Nat) (a0_0 : Int) (A0_1 : Option Addr) (c0_1 : Nat) (l0_1 : List Int) (A0_2 : Option Addr) (c0_2 : Nat) (l0_2 : List (S92)) (a1 : Int) (r : Int) (w : World) (hr0_1 : Kd.C (Kd.int .i64) w A0_1 l0_1.length l0_1) (hc0_1 : l0_1.length ≤ c0_1) (hr0_2 : Kd.C k92 w A0_2 l0_2.length l0_2) (hc0_2 : l0_2.length ≤ c0_2) (h : logjamref37_Lack.f k a0_0 l0_1 l0_2 a1 = some r) :
  Calls Tryd.prog 16 #[.agg #[.int .i64 a0_0, .slice A0_1 l0_1.length c0_1, .slice A0_2 l0_2.length c0_2], .int .i64 a1] w fun e w' => e = .returned (.int .i64 r) ∧ Below w.heap.size w w' := by
 have hu25 := Tryd.underlying25
 have HR0_1 := Aside0.mk hr0_1
 have HC0_1 := Aside0.mk hc0_1
 clear hr0_1 hc0_1
 have HR0_2 := Aside0.mk hr0_2
 have HC0_2 := Aside0.mk hc0_2
 clear hr0_2 hc0_2
 have HB := Aside0.mk (Below.refl w.heap.size w)
 have H : ((logjamref36_Check.f k a0_0 l0_1 l0_2).bind fun t227 => (if t227 = 0 then ((logjamref37_find.f k a0_0 l0_1 l0_2 a1).bind fun t228 => (if t228 < 0 then (logjamref37_Lack.j0 k t228 true a0_0 l0_1 l0_2) else (if 0 ≤ t228 then (if t228 < (l0_2.length : Int) then (logjamref37_Lack.j0 k t228 ((((rd_T92 l0_2 t228).f1).length : Int) == 0) a0_0 l0_1 l0_2) else (none)) else (none)))) else (some (-1)))) = some r := h
 clear h
 replace H := Option.bind_eq_some_iff.mp H
 obtain ⟨t227, A30, H⟩ := H
 replace H : (if t227 = 0 then ((logjamref37_find.f k a0_0 l0_1 l0_2 a1).bind fun t228 => (if t228 < 0 then (logjamref37_Lack.j0 k t228 true a0_0 l0_1 l0_2) else (if 0 ≤ t228 then (if t228 < (l0_2.length : Int) then (logjamref37_Lack.j0 k t228 ((((rd_T92 l0_2 t228).f1).length : Int) == 0) a0_0 l0_1 l0_2) else (none)) else (none)))) else (some (-1))) = some r := H
 have A3 := Aside0.mk A30
 clear A30
 by_cases c4 : t227 = 0
 ·rw [if_pos c4] at H
  have c4b0 : (t227 == 0) = true := beq_iff_eq.mpr c4
  have c4b1 : (t227 != 0) = false := bne_eq_false_iff_eq.mpr c4
  clear c4
  replace H := Option.bind_eq_some_iff.mp H
  obtain ⟨t228, A50, H⟩ := H
  replace H : (if t228 < 0 then (logjamref37_Lack.j0 k t228 true a0_0 l0_1 l0_2) else (if 0 ≤ t228 then (if t228 < (l0_2.length : Int) then (logjamref37_Lack.j0 k t228 ((((rd_T92 l0_2 t228).f1).length : Int) == 0) a0_0 l0_1 l0_2) else (none)) else (none))) = some r := H
  have A5 := Aside0.mk A50
  clear A50
  have HC6 := Aside0.mk H
  clear H
  go_enter Tryd.func16, Tryd.ntmps16
  go_upto_region 4 with (first | ((with_reducible refine gate_dst (N := 2) rfl ?_); (try (refine gate_guard (by rfl) ?_; dsimp only)); refine box_event ?hg (N := 2) ?hd (cs := #[.int .i64 a0_0, .slice A0_1 l0_1.length c0_1, .slice A0_2 l0_2.length c0_2]) (t := 25) ?hr ?_; (case hd => rfl); (case hg => rfl); (case hr => first | (go_simp; done) | (go_simp; rfl)); intro gb226 hg w7 hbox hb; have n0_ := Aside0.mk (below_step (by repeat (first | (with_reducible first | exact HB.out | apply below_alloc | apply pw_below_drewN | apply below_drew1) | exact HB.out)) hb); have n1_ := Aside0.mk (hbox); have n2_ := Aside0.mk ((by rw [hg]; exact (below_size (by repeat (first | (with_reducible first | exact HB.out | apply below_alloc | apply pw_below_drewN | apply below_drew1) | exact HB.out))) : w.heap.size ≤ gb226)); have n3_ := Aside0.mk ((by rw [hg]; exact (below_size (by repeat (first | (with_reducible first | exact HB.out | apply below_alloc | apply pw_below_drewN | apply below_drew1) | exact HB.out))) : w.heap.size ≤ gb226)); clear HB; have HB := n0_; have BK226 := n1_; have GW226 := n2_; have GE226 := n3_; clear n0_ n1_ n2_ n3_; clear hb hbox hg; have hcz8_0 : w7.cell? ⟨gb226, 0, none⟩ = some (.int .i64 a0_0) := (blk_cell BK226.out 0).trans rfl; have hcz8_1 : w7.cell? ⟨gb226, 1, none⟩ = some (.slice A0_1 l0_1.length c0_1) := (blk_cell BK226.out 1).trans rfl; have hcz8_2 : w7.cell? ⟨gb226, 2, none⟩ = some (.slice A0_2 l0_2.length c0_2) := (blk_cell BK226.out 2).trans rfl; have hfz8_0 := blk_frozen BK226.out 0; have hfz8_1 := blk_frozen BK226.out 1; have hfz8_2 := blk_frozen BK226.out 2) | (go_at_call 38; (with_reducible refine (logjamref36_Check.calls k a0_0 _ _ l0_1 _ _ l0_2 t227 _ ?side1 ?side2 ?side3 ?side4 A3.out).mono ?_); (case side1 => repeat (first | exact (Kd.C_below HR0_1.out HB.out) | (with_reducible refine Kd.C_alloc ?_ _) | (with_reducible refine Kd.C_drewN ?_ _) | (with_reducible refine Kd.C_drew ?_))); (case side2 => exact HC0_1.out); (case side3 => repeat (first | exact (Kd.C_below HR0_2.out HB.out) | (with_reducible refine Kd.C_alloc ?_ _) | (with_reducible refine Kd.C_drewN ?_ _) | (with_reducible refine Kd.C_drew ?_))); (case side4 => exact HC0_2.out); rintro e w9 ⟨rfl, hb⟩; have n0_ := Aside0.mk (blk_below (g := gb226) (o := .cells #[.int .i64 a0_0, .slice A0_1 l0_1.length c0_1, .slice A0_2 l0_2.length c0_2] 25 (0, 0)) (by (with_reducible repeat (first | refine blk_drewN ?_ _ | refine blk_drew ?_ | refine blk_alloc ?_ _)); exact BK226.out) hb); have n1_ := Aside0.mk (below_step (by repeat (first | (with_reducible first | exact HB.out | apply below_alloc | apply pw_below_drewN | apply below_drew1 | refine below_set ?_ GE226.out) | exact HB.out)) hb); clear BK226; clear HB; have BK226 := n0_; have HB := n1_; clear n0_ n1_; (try clear hb); (try clear hb2); (try clear hk); (try clear hi); have hcz10_0 : w9.cell? ⟨gb226, 0, none⟩ = some (.int .i64 a0_0) := (blk_cell BK226.out 0).trans rfl; have hcz10_1 : w9.cell? ⟨gb226, 1, none⟩ = some (.slice A0_1 l0_1.length c0_1) := (blk_cell BK226.out 1).trans rfl; have hcz10_2 : w9.cell? ⟨gb226, 2, none⟩ = some (.slice A0_2 l0_2.length c0_2) := (blk_cell BK226.out 2).trans rfl; have hfz10_0 := blk_frozen BK226.out 0; have hfz10_1 := blk_frozen BK226.out 1; have hfz10_2 := blk_frozen BK226.out 2) | (go_at_call 58; (with_reducible refine (logjamref37_find.calls k a0_0 _ _ l0_1 _ _ l0_2 a1 t228 _ ?side1 ?side2 ?side3 ?side4 A5.out).mono ?_); (case side1 => repeat (first | exact (Kd.C_below HR0_1.out HB.out) | (with_reducible refine Kd.C_alloc ?_ _) | (with_reducible refine Kd.C_drewN ?_ _) | (with_reducible refine Kd.C_drew ?_))); (case side2 => exact HC0_1.out); (case side3 => repeat (first | exact (Kd.C_below HR0_2.out HB.out) | (with_reducible refine Kd.C_alloc ?_ _) | (with_reducible refine Kd.C_drewN ?_ _) | (with_reducible refine Kd.C_drew ?_))); (case side4 => exact HC0_2.out); rintro e w11 ⟨rfl, hb⟩; have n0_ := Aside0.mk (blk_below (g := gb226) (o := .cells #[.int .i64 a0_0, .slice A0_1 l0_1.length c0_1, .slice A0_2 l0_2.length c0_2] 25 (0, 0)) (by (with_reducible repeat (first | refine blk_drewN ?_ _ | refine blk_drew ?_ | refine blk_alloc ?_ _)); exact BK226.out) hb); have n1_ := Aside0.mk (below_step (by repeat (first | (with_reducible first | exact HB.out | apply below_alloc | apply pw_below_drewN | apply below_drew1 | refine below_set ?_ GE226.out) | exact HB.out)) hb); clear BK226; clear HB; have BK226 := n0_; have HB := n1_; clear n0_ n1_; (try clear hb); (try clear hb2); (try clear hk); (try clear hi)))
  repeat (go_quiet (first | ((with_reducible refine gate_dst (N := 2) rfl ?_); (try (refine gate_guard (by rfl) ?_; dsimp only)); refine box_event ?hg (N := 2) ?hd (cs := #[.int .i64 a0_0, .slice A0_1 l0_1.length c0_1, .slice A0_2 l0_2.length c0_2]) (t := 25) ?hr ?_; (case hd => rfl); (case hg => rfl); (case hr => first | (go_simp; done) | (go_simp; rfl)); intro gb226 hg w7 hbox hb; have n0_ := Aside0.mk (below_step (by repeat (first | (with_reducible first | exact HB.out | apply below_alloc | apply pw_below_drewN | apply below_drew1) | exact HB.out)) hb); have n1_ := Aside0.mk (hbox); have n2_ := Aside0.mk ((by rw [hg]; exact (below_size (by repeat (first | (with_reducible first | exact HB.out | apply below_alloc | apply pw_below_drewN | apply below_drew1) | exact HB.out))) : w.heap.size ≤ gb226)); have n3_ := Aside0.mk ((by rw [hg]; exact (below_size (by repeat (first | (with_reducible first | exact HB.out | apply below_alloc | apply pw_below_drewN | apply below_drew1) | exact HB.out))) : w.heap.size ≤ gb226)); clear HB; have HB := n0_; have BK226 := n1_; have GW226 := n2_; have GE226 := n3_; clear n0_ n1_ n2_ n3_; clear hb hbox hg; have hcz8_0 : w7.cell? ⟨gb226, 0, none⟩ = some (.int .i64 a0_0) := (blk_cell BK226.out 0).trans rfl; have hcz8_1 : w7.cell? ⟨gb226, 1, none⟩ = some (.slice A0_1 l0_1.length c0_1) := (blk_cell BK226.out 1).trans rfl; have hcz8_2 : w7.cell? ⟨gb226, 2, none⟩ = some (.slice A0_2 l0_2.length c0_2) := (blk_cell BK226.out 2).trans rfl; have hfz8_0 := blk_frozen BK226.out 0; have hfz8_1 := blk_frozen BK226.out 1; have hfz8_2 := blk_frozen BK226.out 2) | (go_at_call 38; (with_reducible refine (logjamref36_Check.calls k a0_0 _ _ l0_1 _ _ l0_2 t227 _ ?side1 ?side2 ?side3 ?side4 A3.out).mono ?_); (case side1 => repeat (first | exact (Kd.C_below HR0_1.out HB.out) | (with_reducible refine Kd.C_alloc ?_ _) | (with_reducible refine Kd.C_drewN ?_ _) | (with_reducible refine Kd.C_drew ?_))); (case side2 => exact HC0_1.out); (case side3 => repeat (first | exact (Kd.C_below HR0_2.out HB.out) | (with_reducible refine Kd.C_alloc ?_ _) | (with_reducible refine Kd.C_drewN ?_ _) | (with_reducible refine Kd.C_drew ?_))); (case side4 => exact HC0_2.out); rintro e w9 ⟨rfl, hb⟩; have n0_ := Aside0.mk (blk_below (g := gb226) (o := .cells #[.int .i64 a0_0, .slice A0_1 l0_1.length c0_1, .slice A0_2 l0_2.length c0_2] 25 (0, 0)) (by (with_reducible repeat (first | refine blk_drewN ?_ _ | refine blk_drew ?_ | refine blk_alloc ?_ _)); exact BK226.out) hb); have n1_ := Aside0.mk (below_step (by repeat (first | (with_reducible first | exact HB.out | apply below_alloc | apply pw_below_drewN | apply below_drew1 | refine below_set ?_ GE226.out) | exact HB.out)) hb); clear BK226; clear HB; have BK226 := n0_; have HB := n1_; clear n0_ n1_; (try clear hb); (try clear hb2); (try clear hk); (try clear hi); have hcz10_0 : w9.cell? ⟨gb226, 0, none⟩ = some (.int .i64 a0_0) := (blk_cell BK226.out 0).trans rfl; have hcz10_1 : w9.cell? ⟨gb226, 1, none⟩ = some (.slice A0_1 l0_1.length c0_1) := (blk_cell BK226.out 1).trans rfl; have hcz10_2 : w9.cell? ⟨gb226, 2, none⟩ = some (.slice A0_2 l0_2.length c0_2) := (blk_cell BK226.out 2).trans rfl; have hfz10_0 := blk_frozen BK226.out 0; have hfz10_1 := blk_frozen BK226.out 1; have hfz10_2 := blk_frozen BK226.out 2) | (go_at_call 58; (with_reducible refine (logjamref37_find.calls k a0_0 _ _ l0_1 _ _ l0_2 a1 t228 _ ?side1 ?side2 ?side3 ?side4 A5.out).mono ?_); (case side1 => repeat (first | exact (Kd.C_below HR0_1.out HB.out) | (with_reducible refine Kd.C_alloc ?_ _) | (with_reducible refine Kd.C_drewN ?_ _) | (with_reducible refine Kd.C_drew ?_))); (case side2 => exact HC0_1.out); (case side3 => repeat (first | exact (Kd.C_below HR0_2.out HB.out) | (with_reducible refine Kd.C_alloc ?_ _) | (with_reducible refine Kd.C_drewN ?_ _) | (with_reducible refine Kd.C_drew ?_))); (case side4 => exact HC0_2.out); rintro e w11 ⟨rfl, hb⟩; have n0_ := Aside0.mk (blk_below (g := gb226) (o := .cells #[.int .i64 a0_0, .slice A0_1 l0_1.length c0_1, .slice A0_2 l0_2.length c0_2] 25 (0, 0)) (by (with_reducible repeat (first | refine blk_drewN ?_ _ | refine blk_drew ?_ | refine blk_alloc ?_ _)); exact BK226.out) hb); have n1_ := Aside0.mk (below_step (by repeat (first | (with_reducible first | exact HB.out | apply below_alloc | apply pw_below_drewN | apply below_drew1 | refine below_set ?_ GE226.out) | exact HB.out)) hb); clear BK226; clear HB; have BK226 := n0_; have HB := n1_; clear n0_ n1_; (try clear hb); (try clear hb2); (try clear hk); (try clear hi))); go_upto_region 4 with (first | ((with_reducible refine gate_dst (N := 2) rfl ?_); (try (refine gate_guard (by rfl) ?_; dsimp only)); refine box_event ?hg (N := 2) ?hd (cs := #[.int .i64 a0_0, .slice A0_1 l0_1.length c0_1, .slice A0_2 l0_2.length c0_2]) (t := 25) ?hr ?_; (case hd => rfl); (case hg => rfl); (case hr => first | (go_simp; done) | (go_simp; rfl)); intro gb226 hg w7 hbox hb; have n0_ := Aside0.mk (below_step (by repeat (first | (with_reducible first | exact HB.out | apply below_alloc | apply pw_below_drewN | apply below_drew1) | exact HB.out)) hb); have n1_ := Aside0.mk (hbox); have n2_ := Aside0.mk ((by rw [hg]; exact (below_size (by repeat (first | (with_reducible first | exact HB.out | apply below_alloc | apply pw_below_drewN | apply below_drew1) | exact HB.out))) : w.heap.size ≤ gb226)); have n3_ := Aside0.mk ((by rw [hg]; exact (below_size (by repeat (first | (with_reducible first | exact HB.out | apply below_alloc | apply pw_below_drewN | apply below_drew1) | exact HB.out))) : w.heap.size ≤ gb226)); clear HB; have HB := n0_; have BK226 := n1_; have GW226 := n2_; have GE226 := n3_; clear n0_ n1_ n2_ n3_; clear hb hbox hg; have hcz8_0 : w7.cell? ⟨gb226, 0, none⟩ = some (.int .i64 a0_0) := (blk_cell BK226.out 0).trans rfl; have hcz8_1 : w7.cell? ⟨gb226, 1, none⟩ = some (.slice A0_1 l0_1.length c0_1) := (blk_cell BK226.out 1).trans rfl; have hcz8_2 : w7.cell? ⟨gb226, 2, none⟩ = some (.slice A0_2 l0_2.length c0_2) := (blk_cell BK226.out 2).trans rfl; have hfz8_0 := blk_frozen BK226.out 0; have hfz8_1 := blk_frozen BK226.out 1; have hfz8_2 := blk_frozen BK226.out 2) | (go_at_call 38; (with_reducible refine (logjamref36_Check.calls k a0_0 _ _ l0_1 _ _ l0_2 t227 _ ?side1 ?side2 ?side3 ?side4 A3.out).mono ?_); (case side1 => repeat (first | exact (Kd.C_below HR0_1.out HB.out) | (with_reducible refine Kd.C_alloc ?_ _) | (with_reducible refine Kd.C_drewN ?_ _) | (with_reducible refine Kd.C_drew ?_))); (case side2 => exact HC0_1.out); (case side3 => repeat (first | exact (Kd.C_below HR0_2.out HB.out) | (with_reducible refine Kd.C_alloc ?_ _) | (with_reducible refine Kd.C_drewN ?_ _) | (with_reducible refine Kd.C_drew ?_))); (case side4 => exact HC0_2.out); rintro e w9 ⟨rfl, hb⟩; have n0_ := Aside0.mk (blk_below (g := gb226) (o := .cells #[.int .i64 a0_0, .slice A0_1 l0_1.length c0_1, .slice A0_2 l0_2.length c0_2] 25 (0, 0)) (by (with_reducible repeat (first | refine blk_drewN ?_ _ | refine blk_drew ?_ | refine blk_alloc ?_ _)); exact BK226.out) hb); have n1_ := Aside0.mk (below_step (by repeat (first | (with_reducible first | exact HB.out | apply below_alloc | apply pw_below_drewN | apply below_drew1 | refine below_set ?_ GE226.out) | exact HB.out)) hb); clear BK226; clear HB; have BK226 := n0_; have HB := n1_; clear n0_ n1_; (try clear hb); (try clear hb2); (try clear hk); (try clear hi); have hcz10_0 : w9.cell? ⟨gb226, 0, none⟩ = some (.int .i64 a0_0) := (blk_cell BK226.out 0).trans rfl; have hcz10_1 : w9.cell? ⟨gb226, 1, none⟩ = some (.slice A0_1 l0_1.length c0_1) := (blk_cell BK226.out 1).trans rfl; have hcz10_2 : w9.cell? ⟨gb226, 2, none⟩ = some (.slice A0_2 l0_2.length c0_2) := (blk_cell BK226.out 2).trans rfl; have hfz10_0 := blk_frozen BK226.out 0; have hfz10_1 := blk_frozen BK226.out 1; have hfz10_2 := blk_frozen BK226.out 2) | (go_at_call 58; (with_reducible refine (logjamref37_find.calls k a0_0 _ _ l0_1 _ _ l0_2 a1 t228 _ ?side1 ?side2 ?side3 ?side4 A5.out).mono ?_); (case side1 => repeat (first | exact (Kd.C_below HR0_1.out HB.out) | (with_reducible refine Kd.C_alloc ?_ _) | (with_reducible refine Kd.C_drewN ?_ _) | (with_reducible refine Kd.C_drew ?_))); (case side2 => exact HC0_1.out); (case side3 => repeat (first | exact (Kd.C_below HR0_2.out HB.out) | (with_reducible refine Kd.C_alloc ?_ _) | (with_reducible refine Kd.C_drewN ?_ _) | (with_reducible refine Kd.C_drew ?_))); (case side4 => exact HC0_2.out); rintro e w11 ⟨rfl, hb⟩; have n0_ := Aside0.mk (blk_below (g := gb226) (o := .cells #[.int .i64 a0_0, .slice A0_1 l0_1.length c0_1, .slice A0_2 l0_2.length c0_2] 25 (0, 0)) (by (with_reducible repeat (first | refine blk_drewN ?_ _ | refine blk_drew ?_ | refine blk_alloc ?_ _)); exact BK226.out) hb); have n1_ := Aside0.mk (below_step (by repeat (first | (with_reducible first | exact HB.out | apply below_alloc | apply pw_below_drewN | apply below_drew1 | refine below_set ?_ GE226.out) | exact HB.out)) hb); clear BK226; clear HB; have BK226 := n0_; have HB := n1_; clear n0_ n1_; (try clear hb); (try clear hb2); (try clear hk); (try clear hi))))
  (try simp only [Act.put, List.setIfInBounds_toArray, List.set_cons_zero, List.set_cons_succ])
  go_cut [23] (fun v23 wc => ∃ (kq : Nat) (x23_5 : Bool), v23 = .bool x23_5 ∧ Aside0 (logjamref37_Lack.j0 kq t228 x23_5 a0_0 l0_1 l0_2 = some r) ∧ Aside0 (kq ≤ k) ∧ Aside0 (wc.heap[gb226]? = some (.cells #[.int .i64 a0_0, (.slice A0_1 l0_1.length c0_1), (.slice A0_2 l0_2.length c0_2)] 25 (0, 0))) ∧ Aside0 (Below w.heap.size w wc))
  case first =>
   have H := HC6.out
   clear HC6
   by_cases c12 : t228 < 0
   ·rw [if_pos c12] at H
    have c12b0 : decide (t228 < 0) = true := decide_eq_true c12
    clear c12
    (first | rw [c12b0] | (simp only [i64_w, i32_w]; rw [c12b0]) | skip)
    have H' := Aside0.mk H
    clear H
    go_wp2
    repeat (go_quiet (fail); try go_wp2)
    go_meet
    case rel => exact ⟨_, (true), (by first | rfl | (simp; done) | (simp [*]; done)), H', ⟨by first | omega | exact Nat.le_refl _⟩, ⟨by (with_reducible repeat (first | refine blk_drewN ?_ _ | refine blk_drew ?_ | refine blk_alloc ?_ _)); exact BK226.out⟩, ⟨by repeat (first | (with_reducible first | exact HB.out | apply below_alloc | apply pw_below_drewN | apply below_drew1 | refine below_set ?_ GE226.out) | exact HB.out)⟩⟩
   ·rw [if_neg c12] at H
    have c12b0 : decide (t228 < 0) = false := decide_eq_false c12
    clear c12
    (first | rw [c12b0] | (simp only [i64_w, i32_w]; rw [c12b0]) | skip)
    by_cases c13 : 0 ≤ t228
    ·rw [if_pos c13] at H
     have c13b0 : decide (0 ≤ t228) = true := decide_eq_true c13
     clear c13
     by_cases c14 : t228 < (l0_2.length : Int)
     ·rw [if_pos c14] at H
      have c14b0 : decide (t228 < (l0_2.length : Int)) = true := decide_eq_true c14
      clear c14
      have H' := Aside0.mk H
      clear H
      have hcz15_0 : w11.cell? ⟨gb226, 0, none⟩ = some (.int .i64 a0_0) := (blk_cell BK226.out 0).trans rfl
      have hcz15_1 : w11.cell? ⟨gb226, 1, none⟩ = some (.slice A0_1 l0_1.length c0_1) := (blk_cell BK226.out 1).trans rfl
      have hcz15_2 : w11.cell? ⟨gb226, 2, none⟩ = some (.slice A0_2 l0_2.length c0_2) := (blk_cell BK226.out 2).trans rfl
      have hfz15_0 := blk_frozen BK226.out 0
      have hfz15_1 := blk_frozen BK226.out 1
      have hfz15_2 := blk_frozen BK226.out 2
      have p229 : 0 ≤ (t228 : Int) := of_decide_eq_true (by first | (with_reducible assumption) | assumption)
      have q229 : t228 < (l0_2.length : Int) := of_decide_eq_true (by first | (with_reducible assumption) | assumption)
      obtain ⟨ad229, A229_1, c229_1, e229, hx229_0, hx229_1, hl229_1, hi229_1⟩ := at_T92 HR0_2.out t228 p229 q229
      cases e229
      replace hx229_0 := (HB.out.cell (World.block_lt_of_cell? w _ hx229_0)).trans hx229_0
      replace hx229_1 := (HB.out.cell (World.block_lt_of_cell? w _ hx229_1)).trans hx229_1
      have HR229_1 := Aside0.mk hi229_1
      have HC229_1 := Aside0.mk hl229_1
      clear hi229_1 hl229_1
      replace p229 := eq_true p229
      replace q229 := eq_true q229
      go_wp2
      repeat (go_quiet (fail); try go_wp2)
      go_meet
      case rel => exact ⟨_, (((((rd_T92 l0_2 t228).f1).length : Int) == 0)), (by first | rfl | (simp; done) | (simp [*]; done)), H', ⟨by first | omega | exact Nat.le_refl _⟩, ⟨by (with_reducible repeat (first | refine blk_drewN ?_ _ | refine blk_drew ?_ | refine blk_alloc ?_ _)); exact BK226.out⟩, ⟨by repeat (first | (with_reducible first | exact HB.out | apply below_alloc | apply pw_below_drewN | apply below_drew1 | refine below_set ?_ GE226.out) | exact HB.out)⟩⟩
     ·rw [if_neg c14] at H
      exact absurd H (by simp)
    ·rw [if_neg c13] at H
     exact absurd H (by simp)
  case rest =>
   clear HC6
   try clear c1
   try clear c2
   try clear p2
   try clear q2
   try clear hx2
   try clear c4
   try clear c4b0
   try clear c4b1
   try clear c12
   try clear c12b0
   try clear c13
   try clear c13b0
   try clear c14
   try clear c14b0
   try clear hcz10_0
   try clear hcz10_1
   try clear hcz10_2
   try clear hcz15_0
   try clear hcz15_1
   try clear hcz15_2
   try clear hcz8_0
   try clear hcz8_1
   try clear hcz8_2
   try clear hfz10_0
   try clear hfz10_1
   try clear hfz10_2
   try clear hfz15_0
   try clear hfz15_1
   try clear hfz15_2
   try clear hfz8_0
   try clear hfz8_1
   try clear hfz8_2
   try clear hx229_0
   try clear hx229_1
   try clear p229
   try clear q229
   obtain ⟨kq, x23_5, rfl, HA, HJ5, BK226, HB⟩ := hcut
   cases kq with
   | zero => exact absurd HA.out (by simp [logjamref37_Lack.j0])
   | succ kj5 =>
    have H := HA.out
    clear HA
    simp only [logjamref37_Lack.j0] at H
    by_cases c16 : x23_5 = true
    ·subst c16
     have H1 : (some (-1)) = some r := by rw [if_pos rfl] at H; exact H
     clear H
     have H := H1
     clear H1
     obtain rfl := Option.some.inj H
     go_wp2
     repeat (go_quiet (fail); try go_wp2)
     go_ret
     exact ⟨by first | rfl | (simp [errW_none, errW_some] <;> rfl) | (simp [*, errW_none, errW_some] <;> rfl), by repeat (first | (with_reducible first | exact HB.out | apply below_alloc | apply pw_below_drewN | apply below_drew1 | refine below_set ?_ GE226.out) | exact HB.out)⟩
    ·replace c16 := Bool.eq_false_iff.mpr c16
     subst c16
     have H1 : (if 0 ≤ t228 then (if t228 < (l0_2.length : Int) then (if 0 < (((rd_T92 l0_2 t228).f1).length : Int) then ((logjamref02_Of.f kj5 l0_1).bind fun t232 => ((logjamref37_Lacks.f kj5 (rd_L5 ((rd_T92 l0_2 t228).f1) 0) t232).bind fun t233 => (some t233))) else (none)) else (none)) else (none)) = some r := by rw [if_neg (show ¬ (false = true) by decide)] at H; exact H
     clear H
     have H := H1
     clear H1
     by_cases c17 : 0 ≤ t228
     ·rw [if_pos c17] at H
      have c17b0 : decide (0 ≤ t228) = true := decide_eq_true c17
      clear c17
      by_cases c18 : t228 < (l0_2.length : Int)
      ·rw [if_pos c18] at H
       have c18b0 : decide (t228 < (l0_2.length : Int)) = true := decide_eq_true c18
       clear c18
       by_cases c19 : 0 < (((rd_T92 l0_2 t228).f1).length : Int)
       ·rw [if_pos c19] at H
        have c19b0 : decide (0 < (((rd_T92 l0_2 t228).f1).length : Int)) = true := decide_eq_true c19
        have c19b1 : decide (0 < ((rd_T92 l0_2 t228).f1).length) = true := decide_eq_true (by omega)
        clear c19
        replace H := Option.bind_eq_some_iff.mp H
        obtain ⟨t232, A200, H⟩ := H
        replace H : ((logjamref37_Lacks.f kj5 (rd_L5 ((rd_T92 l0_2 t228).f1) 0) t232).bind fun t233 => (some t233)) = some r := H
        have A20 := Aside0.mk A200
        clear A200
        replace H := Option.bind_eq_some_iff.mp H
        obtain ⟨t233, A210, H⟩ := H
        replace H : (some t233) = some r := H
        have A21 := Aside0.mk A210
        clear A210
        obtain rfl := Option.some.inj H
        have hcz22_0 : wc.cell? ⟨gb226, 0, none⟩ = some (.int .i64 a0_0) := (blk_cell BK226.out 0).trans rfl
        have hcz22_1 : wc.cell? ⟨gb226, 1, none⟩ = some (.slice A0_1 l0_1.length c0_1) := (blk_cell BK226.out 1).trans rfl
        have hcz22_2 : wc.cell? ⟨gb226, 2, none⟩ = some (.slice A0_2 l0_2.length c0_2) := (blk_cell BK226.out 2).trans rfl
        have hfz22_0 := blk_frozen BK226.out 0
        have hfz22_1 := blk_frozen BK226.out 1
        have hfz22_2 := blk_frozen BK226.out 2
        have p230 : 0 ≤ (t228 : Int) := of_decide_eq_true (by first | (with_reducible assumption) | assumption)
        have q230 : t228 < (l0_2.length : Int) := of_decide_eq_true (by first | (with_reducible assumption) | assumption)
        obtain ⟨ad230, A230_1, c230_1, e230, hx230_0, hx230_1, hl230_1, hi230_1⟩ := at_T92 HR0_2.out t228 p230 q230
        cases e230
        replace hx230_0 := (HB.out.cell (World.block_lt_of_cell? w _ hx230_0)).trans hx230_0
        replace hx230_1 := (HB.out.cell (World.block_lt_of_cell? w _ hx230_1)).trans hx230_1
        have HR230_1 := Aside0.mk hi230_1
        have HC230_1 := Aside0.mk hl230_1
        clear hi230_1 hl230_1
        replace p230 := eq_true p230
        replace q230 := eq_true q230
        have p231 : 0 ≤ (0 : Int) := (by omega)
        have q231 : 0 < (((rd_T92 l0_2 t228).f1).length : Int) := of_decide_eq_true (by first | (with_reducible assumption) | assumption)
        obtain ⟨ad231, A231_0, c231_0, e231, hx231_0, hl231_0, hi231_0⟩ := at_L5 HR230_1.out 0 p231 q231
        cases e231
        have qi231 : (0 < ((rd_T92 l0_2 t228).f1).length) = True := eq_true (by omega)
        (try rw [show ((0 : Int)).toNat = 0 from rfl] at hx231_0)
        (try rw [Addr.add_zero'] at hx231_0)
        replace hx231_0 := (HB.out.cell (World.block_lt_of_cell? w _ hx231_0)).trans hx231_0
        have HR231_0 := Aside0.mk hi231_0
        have HC231_0 := Aside0.mk hl231_0
        clear hi231_0 hl231_0
        replace p231 := eq_true p231
        replace q231 := eq_true q231
        go_wp2_with (first | (go_at_call 28; (with_reducible refine (logjamref02_Of.calls kj5 _ _ l0_1 t232 _ ?side1 ?side2 A20.out).mono ?_); (case side1 => repeat (first | exact (Kd.C_below HR0_1.out HB.out) | (with_reducible refine Kd.C_alloc ?_ _) | (with_reducible refine Kd.C_drewN ?_ _) | (with_reducible refine Kd.C_drew ?_))); (case side2 => exact HC0_1.out); rintro e w' ⟨rfl, ⟨nd, rfl⟩⟩; (try first | exact ⟨rfl, _, World.drewN_drewN _ _ _⟩ | exact ⟨rfl, _, Eq.trans (World.drewN_drewN _ _ _) (congrArg (World.drewN _) (Nat.add_assoc _ _ _))⟩)) | (go_at_call 59; (with_reducible refine (logjamref37_Lacks.calls kj5 _ _ (rd_L5 ((rd_T92 l0_2 t228).f1) 0) t232 t233 _ ?side1 ?side2 A21.out).mono ?_); (case side1 => repeat (first | exact (Kd.C_below HR231_0.out (by repeat (first | (with_reducible first | exact HB.out | apply below_alloc | apply pw_below_drewN | apply below_drew1 | refine below_set ?_ GE226.out) | exact HB.out))) | (with_reducible refine Kd.C_alloc ?_ _) | (with_reducible refine Kd.C_drewN ?_ _) | (with_reducible refine Kd.C_drew ?_))); (case side2 => exact HC231_0.out); rintro e w' ⟨rfl, ⟨nd, rfl⟩⟩; (try first | exact ⟨rfl, _, World.drewN_drewN _ _ _⟩ | exact ⟨rfl, _, Eq.trans (World.drewN_drewN _ _ _) (congrArg (World.drewN _) (Nat.add_assoc _ _ _))⟩)))
        repeat (go_quiet (first | (go_at_call 28; (with_reducible refine (logjamref02_Of.calls kj5 _ _ l0_1 t232 _ ?side1 ?side2 A20.out).mono ?_); (case side1 => repeat (first | exact (Kd.C_below HR0_1.out HB.out) | (with_reducible refine Kd.C_alloc ?_ _) | (with_reducible refine Kd.C_drewN ?_ _) | (with_reducible refine Kd.C_drew ?_))); (case side2 => exact HC0_1.out); rintro e w' ⟨rfl, ⟨nd, rfl⟩⟩; (try first | exact ⟨rfl, _, World.drewN_drewN _ _ _⟩ | exact ⟨rfl, _, Eq.trans (World.drewN_drewN _ _ _) (congrArg (World.drewN _) (Nat.add_assoc _ _ _))⟩)) | (go_at_call 59; (with_reducible refine (logjamref37_Lacks.calls kj5 _ _ (rd_L5 ((rd_T92 l0_2 t228).f1) 0) t232 t233 _ ?side1 ?side2 A21.out).mono ?_); (case side1 => repeat (first | exact (Kd.C_below HR231_0.out (by repeat (first | (with_reducible first | exact HB.out | apply below_alloc | apply pw_below_drewN | apply below_drew1 | refine below_set ?_ GE226.out) | exact HB.out))) | (with_reducible refine Kd.C_alloc ?_ _) | (with_reducible refine Kd.C_drewN ?_ _) | (with_reducible refine Kd.C_drew ?_))); (case side2 => exact HC231_0.out); rintro e w' ⟨rfl, ⟨nd, rfl⟩⟩; (try first | exact ⟨rfl, _, World.drewN_drewN _ _ _⟩ | exact ⟨rfl, _, Eq.trans (World.drewN_drewN _ _ _) (congrArg (World.drewN _) (Nat.add_assoc _ _ _))⟩))); try go_wp2_with (first | (go_at_call 28; (with_reducible refine (logjamref02_Of.calls kj5 _ _ l0_1 t232 _ ?side1 ?side2 A20.out).mono ?_); (case side1 => repeat (first | exact (Kd.C_below HR0_1.out HB.out) | (with_reducible refine Kd.C_alloc ?_ _) | (with_reducible refine Kd.C_drewN ?_ _) | (with_reducible refine Kd.C_drew ?_))); (case side2 => exact HC0_1.out); rintro e w' ⟨rfl, ⟨nd, rfl⟩⟩; (try first | exact ⟨rfl, _, World.drewN_drewN _ _ _⟩ | exact ⟨rfl, _, Eq.trans (World.drewN_drewN _ _ _) (congrArg (World.drewN _) (Nat.add_assoc _ _ _))⟩)) | (go_at_call 59; (with_reducible refine (logjamref37_Lacks.calls kj5 _ _ (rd_L5 ((rd_T92 l0_2 t228).f1) 0) t232 t233 _ ?side1 ?side2 A21.out).mono ?_); (case side1 => repeat (first | exact (Kd.C_below HR231_0.out (by repeat (first | (with_reducible first | exact HB.out | apply below_alloc | apply pw_below_drewN | apply below_drew1 | refine below_set ?_ GE226.out) | exact HB.out))) | (with_reducible refine Kd.C_alloc ?_ _) | (with_reducible refine Kd.C_drewN ?_ _) | (with_reducible refine Kd.C_drew ?_))); (case side2 => exact HC231_0.out); rintro e w' ⟨rfl, ⟨nd, rfl⟩⟩; (try first | exact ⟨rfl, _, World.drewN_drewN _ _ _⟩ | exact ⟨rfl, _, Eq.trans (World.drewN_drewN _ _ _) (congrArg (World.drewN _) (Nat.add_assoc _ _ _))⟩))))
        go_ret
        exact ⟨by first | rfl | (simp [errW_none, errW_some] <;> rfl) | (simp [*, errW_none, errW_some] <;> rfl), by repeat (first | (with_reducible first | exact HB.out | apply below_alloc | apply pw_below_drewN | apply below_drew1 | refine below_set ?_ GE226.out) | exact HB.out)⟩
       ·rw [if_neg c19] at H
        exact absurd H (by simp)
      ·rw [if_neg c18] at H
       exact absurd H (by simp)
     ·rw [if_neg c17] at H
      exact absurd H (by simp)
 ·rw [if_neg c4] at H
  have c4b0 : (t227 == 0) = false := beq_eq_false_iff_ne.mpr c4
  have c4b1 : (t227 != 0) = true := bne_iff_ne.mpr c4
  obtain rfl := Option.some.inj H
  go_enter Tryd.func16, Tryd.ntmps16
  go_wp2_with (first | ((with_reducible refine gate_dst (N := 2) rfl ?_); (try (refine gate_guard (by rfl) ?_; dsimp only)); refine box_event ?hg (N := 2) ?hd (cs := #[.int .i64 a0_0, .slice A0_1 l0_1.length c0_1, .slice A0_2 l0_2.length c0_2]) (t := 25) ?hr ?_; (case hd => rfl); (case hg => rfl); (case hr => first | (go_simp; done) | (go_simp; rfl)); intro gb226 hg w23 hbox hb; have n0_ := Aside0.mk (below_step (by repeat (first | (with_reducible first | exact HB.out | apply below_alloc | apply pw_below_drewN | apply below_drew1) | exact HB.out)) hb); have n1_ := Aside0.mk (hbox); have n2_ := Aside0.mk ((by rw [hg]; exact (below_size (by repeat (first | (with_reducible first | exact HB.out | apply below_alloc | apply pw_below_drewN | apply below_drew1) | exact HB.out))) : w.heap.size ≤ gb226)); have n3_ := Aside0.mk ((by rw [hg]; exact (below_size (by repeat (first | (with_reducible first | exact HB.out | apply below_alloc | apply pw_below_drewN | apply below_drew1) | exact HB.out))) : w.heap.size ≤ gb226)); clear HB; have HB := n0_; have BK226 := n1_; have GW226 := n2_; have GE226 := n3_; clear n0_ n1_ n2_ n3_; clear hb hbox hg; have hcz24_0 : w23.cell? ⟨gb226, 0, none⟩ = some (.int .i64 a0_0) := (blk_cell BK226.out 0).trans rfl; have hcz24_1 : w23.cell? ⟨gb226, 1, none⟩ = some (.slice A0_1 l0_1.length c0_1) := (blk_cell BK226.out 1).trans rfl; have hcz24_2 : w23.cell? ⟨gb226, 2, none⟩ = some (.slice A0_2 l0_2.length c0_2) := (blk_cell BK226.out 2).trans rfl; have hfz24_0 := blk_frozen BK226.out 0; have hfz24_1 := blk_frozen BK226.out 1; have hfz24_2 := blk_frozen BK226.out 2) | (go_at_call 38; (with_reducible refine (logjamref36_Check.calls k a0_0 _ _ l0_1 _ _ l0_2 t227 _ ?side1 ?side2 ?side3 ?side4 A3.out).mono ?_); (case side1 => repeat (first | exact (Kd.C_below HR0_1.out HB.out) | (with_reducible refine Kd.C_alloc ?_ _) | (with_reducible refine Kd.C_drewN ?_ _) | (with_reducible refine Kd.C_drew ?_))); (case side2 => exact HC0_1.out); (case side3 => repeat (first | exact (Kd.C_below HR0_2.out HB.out) | (with_reducible refine Kd.C_alloc ?_ _) | (with_reducible refine Kd.C_drewN ?_ _) | (with_reducible refine Kd.C_drew ?_))); (case side4 => exact HC0_2.out); rintro e w25 ⟨rfl, hb⟩; have n0_ := Aside0.mk (blk_below (g := gb226) (o := .cells #[.int .i64 a0_0, .slice A0_1 l0_1.length c0_1, .slice A0_2 l0_2.length c0_2] 25 (0, 0)) (by (with_reducible repeat (first | refine blk_drewN ?_ _ | refine blk_drew ?_ | refine blk_alloc ?_ _)); exact BK226.out) hb); have n1_ := Aside0.mk (below_step (by repeat (first | (with_reducible first | exact HB.out | apply below_alloc | apply pw_below_drewN | apply below_drew1 | refine below_set ?_ GE226.out) | exact HB.out)) hb); clear BK226; clear HB; have BK226 := n0_; have HB := n1_; clear n0_ n1_; (try clear hb); (try clear hb2); (try clear hk); (try clear hi)))
  repeat (go_quiet (first | ((with_reducible refine gate_dst (N := 2) rfl ?_); (try (refine gate_guard (by rfl) ?_; dsimp only)); refine box_event ?hg (N := 2) ?hd (cs := #[.int .i64 a0_0, .slice A0_1 l0_1.length c0_1, .slice A0_2 l0_2.length c0_2]) (t := 25) ?hr ?_; (case hd => rfl); (case hg => rfl); (case hr => first | (go_simp; done) | (go_simp; rfl)); intro gb226 hg w23 hbox hb; have n0_ := Aside0.mk (below_step (by repeat (first | (with_reducible first | exact HB.out | apply below_alloc | apply pw_below_drewN | apply below_drew1) | exact HB.out)) hb); have n1_ := Aside0.mk (hbox); have n2_ := Aside0.mk ((by rw [hg]; exact (below_size (by repeat (first | (with_reducible first | exact HB.out | apply below_alloc | apply pw_below_drewN | apply below_drew1) | exact HB.out))) : w.heap.size ≤ gb226)); have n3_ := Aside0.mk ((by rw [hg]; exact (below_size (by repeat (first | (with_reducible first | exact HB.out | apply below_alloc | apply pw_below_drewN | apply below_drew1) | exact HB.out))) : w.heap.size ≤ gb226)); clear HB; have HB := n0_; have BK226 := n1_; have GW226 := n2_; have GE226 := n3_; clear n0_ n1_ n2_ n3_; clear hb hbox hg; have hcz24_0 : w23.cell? ⟨gb226, 0, none⟩ = some (.int .i64 a0_0) := (blk_cell BK226.out 0).trans rfl; have hcz24_1 : w23.cell? ⟨gb226, 1, none⟩ = some (.slice A0_1 l0_1.length c0_1) := (blk_cell BK226.out 1).trans rfl; have hcz24_2 : w23.cell? ⟨gb226, 2, none⟩ = some (.slice A0_2 l0_2.length c0_2) := (blk_cell BK226.out 2).trans rfl; have hfz24_0 := blk_frozen BK226.out 0; have hfz24_1 := blk_frozen BK226.out 1; have hfz24_2 := blk_frozen BK226.out 2) | (go_at_call 38; (with_reducible refine (logjamref36_Check.calls k a0_0 _ _ l0_1 _ _ l0_2 t227 _ ?side1 ?side2 ?side3 ?side4 A3.out).mono ?_); (case side1 => repeat (first | exact (Kd.C_below HR0_1.out HB.out) | (with_reducible refine Kd.C_alloc ?_ _) | (with_reducible refine Kd.C_drewN ?_ _) | (with_reducible refine Kd.C_drew ?_))); (case side2 => exact HC0_1.out); (case side3 => repeat (first | exact (Kd.C_below HR0_2.out HB.out) | (with_reducible refine Kd.C_alloc ?_ _) | (with_reducible refine Kd.C_drewN ?_ _) | (with_reducible refine Kd.C_drew ?_))); (case side4 => exact HC0_2.out); rintro e w25 ⟨rfl, hb⟩; have n0_ := Aside0.mk (blk_below (g := gb226) (o := .cells #[.int .i64 a0_0, .slice A0_1 l0_1.length c0_1, .slice A0_2 l0_2.length c0_2] 25 (0, 0)) (by (with_reducible repeat (first | refine blk_drewN ?_ _ | refine blk_drew ?_ | refine blk_alloc ?_ _)); exact BK226.out) hb); have n1_ := Aside0.mk (below_step (by repeat (first | (with_reducible first | exact HB.out | apply below_alloc | apply pw_below_drewN | apply below_drew1 | refine below_set ?_ GE226.out) | exact HB.out)) hb); clear BK226; clear HB; have BK226 := n0_; have HB := n1_; clear n0_ n1_; (try clear hb); (try clear hb2); (try clear hk); (try clear hi))); try go_wp2_with (first | ((with_reducible refine gate_dst (N := 2) rfl ?_); (try (refine gate_guard (by rfl) ?_; dsimp only)); refine box_event ?hg (N := 2) ?hd (cs := #[.int .i64 a0_0, .slice A0_1 l0_1.length c0_1, .slice A0_2 l0_2.length c0_2]) (t := 25) ?hr ?_; (case hd => rfl); (case hg => rfl); (case hr => first | (go_simp; done) | (go_simp; rfl)); intro gb226 hg w23 hbox hb; have n0_ := Aside0.mk (below_step (by repeat (first | (with_reducible first | exact HB.out | apply below_alloc | apply pw_below_drewN | apply below_drew1) | exact HB.out)) hb); have n1_ := Aside0.mk (hbox); have n2_ := Aside0.mk ((by rw [hg]; exact (below_size (by repeat (first | (with_reducible first | exact HB.out | apply below_alloc | apply pw_below_drewN | apply below_drew1) | exact HB.out))) : w.heap.size ≤ gb226)); have n3_ := Aside0.mk ((by rw [hg]; exact (below_size (by repeat (first | (with_reducible first | exact HB.out | apply below_alloc | apply pw_below_drewN | apply below_drew1) | exact HB.out))) : w.heap.size ≤ gb226)); clear HB; have HB := n0_; have BK226 := n1_; have GW226 := n2_; have GE226 := n3_; clear n0_ n1_ n2_ n3_; clear hb hbox hg; have hcz24_0 : w23.cell? ⟨gb226, 0, none⟩ = some (.int .i64 a0_0) := (blk_cell BK226.out 0).trans rfl; have hcz24_1 : w23.cell? ⟨gb226, 1, none⟩ = some (.slice A0_1 l0_1.length c0_1) := (blk_cell BK226.out 1).trans rfl; have hcz24_2 : w23.cell? ⟨gb226, 2, none⟩ = some (.slice A0_2 l0_2.length c0_2) := (blk_cell BK226.out 2).trans rfl; have hfz24_0 := blk_frozen BK226.out 0; have hfz24_1 := blk_frozen BK226.out 1; have hfz24_2 := blk_frozen BK226.out 2) | (go_at_call 38; (with_reducible refine (logjamref36_Check.calls k a0_0 _ _ l0_1 _ _ l0_2 t227 _ ?side1 ?side2 ?side3 ?side4 A3.out).mono ?_); (case side1 => repeat (first | exact (Kd.C_below HR0_1.out HB.out) | (with_reducible refine Kd.C_alloc ?_ _) | (with_reducible refine Kd.C_drewN ?_ _) | (with_reducible refine Kd.C_drew ?_))); (case side2 => exact HC0_1.out); (case side3 => repeat (first | exact (Kd.C_below HR0_2.out HB.out) | (with_reducible refine Kd.C_alloc ?_ _) | (with_reducible refine Kd.C_drewN ?_ _) | (with_reducible refine Kd.C_drew ?_))); (case side4 => exact HC0_2.out); rintro e w25 ⟨rfl, hb⟩; have n0_ := Aside0.mk (blk_below (g := gb226) (o := .cells #[.int .i64 a0_0, .slice A0_1 l0_1.length c0_1, .slice A0_2 l0_2.length c0_2] 25 (0, 0)) (by (with_reducible repeat (first | refine blk_drewN ?_ _ | refine blk_drew ?_ | refine blk_alloc ?_ _)); exact BK226.out) hb); have n1_ := Aside0.mk (below_step (by repeat (first | (with_reducible first | exact HB.out | apply below_alloc | apply pw_below_drewN | apply below_drew1 | refine below_set ?_ GE226.out) | exact HB.out)) hb); clear BK226; clear HB; have BK226 := n0_; have HB := n1_; clear n0_ n1_; (try clear hb); (try clear hb2); (try clear hk); (try clear hi))))
  go_ret
  exact ⟨by first | rfl | (simp [errW_none, errW_some] <;> rfl) | (simp [*, errW_none, errW_some] <;> rfl), by repeat (first | (with_reducible first | exact HB.out | apply below_alloc | apply pw_below_drewN | apply below_drew1 | refine below_set ?_ GE226.out) | exact HB.out)⟩
end Go.Proofs.YtadepdeckapgcaaDoor.PWitnessTells
end
