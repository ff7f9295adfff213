/- LawReportBack, part 3: what the proof stands on (merged by wip/shake.py out of the session's texts and of what the print wrote for this claim). -/
import Derived.Test.YtadepdeckapgcaaDoorZhB

section
namespace Go.Proofs.YtadepdeckapgcaaDoor.PRp
open Go.RowKit Go.Proofs.YtadepdeckapgcaaDoor.Orc Go.Proofs.YtadepdeckapgcaaDoorW.PrintWords Go.Proofs.YtadepdeckapgcaaDoorW.PrintLast Go.Proofs.YtadepdeckapgcaaDoorW.PrintMore
attribute [local go_sem] max2_int min2_int max_two min_two max_three min_three max_four min_four
set_option linter.unusedVariables false
set_option linter.unusedSimpArgs false
mutual
def report_node.l0 : Nat → List (List (S96)) → Int → Int → Option (Int)
 | 0, _, _, _ => none
 | k + 1, x16, x17, x18 => if x18 < x17 then (if 0 ≤ x18 then (if x18 < (x16.length : Int) then (if ((rd_L7 x16 x18).length : Int) > 256 then (some 4) else (report_node.l1 k x16 x17 x18 (rd_L7 x16 x18) ((rd_L7 x16 x18).length : Int) 0)) else (none)) else (none)) else (some 0)
def report_node.l1 : Nat → List (List (S96)) → Int → Int → List (S96) → Int → Int → Option (Int)
 | 0, _, _, _, _, _, _ => none
 | k + 1, x16, x17, x18, x25, x26, x27 => if x27 < x26 then (if 0 ≤ x27 then (if x27 < (x25.length : Int) then ((report_term.f k ((rd_T96 x25 x27).f0) ((rd_T96 x25 x27).f1)).bind fun t158 => (if t158 = 0 then (report_node.l1 k x16 x17 x18 x25 x26 (wrap64 (x27 + 1))) else (some t158))) else (none)) else (none)) else (report_node.l0 k x16 x17 (wrap64 (x18 + 1)))
end
def report_node.f (k : Nat) (a0_0 : Bool) (l0_1 : List (List (S96))) : Option (Int) := if a0_0 = true then (if (l0_1.length : Int) > 4 then (some 4) else (report_node.l0 k l0_1 (l0_1.length : Int) 0)) else (some 2)
set_option maxHeartbeats 8000000 in
set_option maxRecDepth 100000 in
theorem report_node.calls (k : Nat) (a0_0 : Bool) (A0_1 : Option Addr) (c0_1 : Nat) (l0_1 : List (List (S96))) (r : Int) (w : World) (hr0_1 : Kd.C (Kd.slice 96 k96) w A0_1 l0_1.length l0_1) (hc0_1 : l0_1.length ≤ c0_1) (h : report_node.f k a0_0 l0_1 = some r) :
  Calls Tryd.prog 85 #[.agg #[.bool a0_0, .slice A0_1 l0_1.length c0_1]] w fun e w' => e = .returned (.int .i64 r) ∧ Below w.heap.size w w' := by
 have hu92 := Tryd.underlying92
 have hu96 := Tryd.underlying96
 have HR0_1 := Aside0.mk hr0_1
 have HC0_1 := Aside0.mk hc0_1
 clear hr0_1 hc0_1
 have HB := Aside0.mk (Below.refl w.heap.size w)
 have H : (if a0_0 = true then (if (l0_1.length : Int) > 4 then (some 4) else (report_node.l0 k l0_1 (l0_1.length : Int) 0)) else (some 2)) = some r := h
 clear h
 by_cases c2 : a0_0 = true
 ·subst c2
  have H1 : (if (l0_1.length : Int) > 4 then (some 4) else (report_node.l0 k l0_1 (l0_1.length : Int) 0)) = some r := by rw [if_pos rfl] at H; exact H
  clear H
  have H := H1
  clear H1
  by_cases c3 : (l0_1.length : Int) > 4
  ·rw [if_pos c3] at H
   have c3b0 : decide (4 < (l0_1.length : Int)) = true := decide_eq_true c3
   have c3b1 : decide (4 < l0_1.length) = true := decide_eq_true (by omega)
   clear c3
   obtain rfl := Option.some.inj H
   go_enter Tryd.func85, Tryd.ntmps85
   go_wp2_with (first | ((with_reducible refine gate_dst (N := 1) rfl ?_); refine box_event ?hg (N := 1) ?hd (cs := #[.bool true, .slice A0_1 l0_1.length c0_1]) (t := 92) ?hr ?_; (case hd => rfl); (case hg => rfl); (case hr => first | (go_simp; done) | (go_simp; rfl)); intro gb154 hg w4 hbox hb; have n0_ := Aside0.mk (below_step (by repeat (first | (with_reducible first | exact HB.out | apply below_alloc | apply pw_below_drewN | apply below_drew1) | exact HB.out)) hb); have n1_ := Aside0.mk (hbox); have n2_ := Aside0.mk ((by rw [hg]; exact (below_size (by repeat (first | (with_reducible first | exact HB.out | apply below_alloc | apply pw_below_drewN | apply below_drew1) | exact HB.out))) : w.heap.size ≤ gb154)); have n3_ := Aside0.mk ((by rw [hg]; exact (below_size (by repeat (first | (with_reducible first | exact HB.out | apply below_alloc | apply pw_below_drewN | apply below_drew1) | exact HB.out))) : w.heap.size ≤ gb154)); clear HB; have HB := n0_; have BK154 := n1_; have GW154 := n2_; have GE154 := n3_; clear n0_ n1_ n2_ n3_; clear hb hbox hg; have hcz5_0 : w4.cell? ⟨gb154, 0, none⟩ = some (.bool true) := (blk_cell BK154.out 0).trans rfl; have hcz5_1 : w4.cell? ⟨gb154, 1, none⟩ = some (.slice A0_1 l0_1.length c0_1) := (blk_cell BK154.out 1).trans rfl; have hfz5_0 := blk_frozen BK154.out 0; have hfz5_1 := blk_frozen BK154.out 1))
   go_ret
   exact ⟨by first | rfl | (simp [errW_none, errW_some] <;> rfl) | (simp [*, errW_none, errW_some] <;> rfl), by repeat (first | (with_reducible first | exact HB.out | apply below_alloc | apply pw_below_drewN | apply below_drew1 | refine below_set ?_ GE154.out) | exact HB.out)⟩
  ·rw [if_neg c3] at H
   have c3b0 : decide (4 < (l0_1.length : Int)) = false := decide_eq_false c3
   have c3b1 : decide (4 < l0_1.length) = false := decide_eq_false (by omega)
   clear c3
   have H' := Aside0.mk H
   clear H
   go_enter Tryd.func85, Tryd.ntmps85
   go_wp2_with (first | ((with_reducible refine gate_dst (N := 1) rfl ?_); refine box_event ?hg (N := 1) ?hd (cs := #[.bool true, .slice A0_1 l0_1.length c0_1]) (t := 92) ?hr ?_; (case hd => rfl); (case hg => rfl); (case hr => first | (go_simp; done) | (go_simp; rfl)); intro gb154 hg w6 hbox hb; have n0_ := Aside0.mk (below_step (by repeat (first | (with_reducible first | exact HB.out | apply below_alloc | apply pw_below_drewN | apply below_drew1) | exact HB.out)) hb); have n1_ := Aside0.mk (hbox); have n2_ := Aside0.mk ((by rw [hg]; exact (below_size (by repeat (first | (with_reducible first | exact HB.out | apply below_alloc | apply pw_below_drewN | apply below_drew1) | exact HB.out))) : w.heap.size ≤ gb154)); have n3_ := Aside0.mk ((by rw [hg]; exact (below_size (by repeat (first | (with_reducible first | exact HB.out | apply below_alloc | apply pw_below_drewN | apply below_drew1) | exact HB.out))) : w.heap.size ≤ gb154)); clear HB; have HB := n0_; have BK154 := n1_; have GW154 := n2_; have GE154 := n3_; clear n0_ n1_ n2_ n3_; clear hb hbox hg; have hcz7_0 : w6.cell? ⟨gb154, 0, none⟩ = some (.bool true) := (blk_cell BK154.out 0).trans rfl; have hcz7_1 : w6.cell? ⟨gb154, 1, none⟩ = some (.slice A0_1 l0_1.length c0_1) := (blk_cell BK154.out 1).trans rfl; have hfz7_0 := blk_frozen BK154.out 0; have hfz7_1 := blk_frozen BK154.out 1))
   go_loopg [18] k (fun kq v18 w' => ∃ (x18_1 : Int), v18 = .int .i64 x18_1 ∧ Aside0 (report_node.l0 kq l0_1 (l0_1.length : Int) x18_1 = some r) ∧ Aside0 (kq ≤ k) ∧ Aside0 (w'.heap[gb154]? = some (.cells #[.bool true, (.slice A0_1 l0_1.length c0_1)] 92 (0, 0))) ∧ Aside0 (Below w.heap.size w w'))
   case atStart => exact ⟨(0), (by first | rfl | (simp; done) | (simp only [emptyNe_, emptyEq_]; done) | (simp [*]; done)), H', ⟨Nat.le_refl _⟩, ⟨by (with_reducible repeat (first | refine blk_drewN ?_ _ | refine blk_drew ?_ | refine blk_alloc ?_ _)); exact BK154.out⟩, ⟨by repeat (first | (with_reducible first | exact HB.out | apply below_alloc | apply pw_below_drewN | apply below_drew1 | refine below_set ?_ GE154.out) | exact HB.out)⟩⟩
   case round =>
    clear H'; try clear c2; try clear p2; try clear c3; try clear c3b0; try clear c3b1; try clear hcz5_0; try clear hcz5_1; try clear hcz7_0; try clear hcz7_1; try clear hfz5_0; try clear hfz5_1; try clear hfz7_0; try clear hfz7_1
    obtain ⟨x18_1, rfl, HA, HK1, BK154, HB⟩ := hrel
    cases gk with
    | zero => exact absurd HA.out (by simp [report_node.l0])
    | succ k1 =>
     have H := HA.out
     clear HA
     simp only [report_node.l0] at H
     by_cases c8 : x18_1 < (l0_1.length : Int)
     ·rw [if_pos c8] at H
      have c8b0 : decide (x18_1 < (l0_1.length : Int)) = true := decide_eq_true c8
      clear c8
      by_cases c9 : 0 ≤ x18_1
      ·rw [if_pos c9] at H
       have c9b0 : decide (0 ≤ x18_1) = true := decide_eq_true c9
       clear c9
       by_cases c10 : x18_1 < (l0_1.length : Int)
       ·rw [if_pos c10] at H
        have c10b0 : decide (x18_1 < (l0_1.length : Int)) = true := decide_eq_true c10
        clear c10
        by_cases c11 : ((rd_L7 l0_1 x18_1).length : Int) > 256
        ·rw [if_pos c11] at H
         have c11b0 : decide (256 < ((rd_L7 l0_1 x18_1).length : Int)) = true := decide_eq_true c11
         have c11b1 : decide (256 < (rd_L7 l0_1 x18_1).length) = true := decide_eq_true (by omega)
         clear c11
         obtain rfl := Option.some.inj H
         have p155 : 0 ≤ (x18_1 : Int) := of_decide_eq_true (by first | (with_reducible assumption) | assumption)
         have q155 : x18_1 < (l0_1.length : Int) := of_decide_eq_true (by first | (with_reducible assumption) | assumption)
         obtain ⟨ad155, A155_0, c155_0, e155, hx155_0, hl155_0, hi155_0⟩ := at_L7 HR0_1.out x18_1 p155 q155
         cases e155
         replace hx155_0 := (HB.out.cell (World.block_lt_of_cell? w _ hx155_0)).trans hx155_0
         have HR155_0 := Aside0.mk hi155_0
         have HC155_0 := Aside0.mk hl155_0
         clear hi155_0 hl155_0
         replace p155 := eq_true p155
         replace q155 := eq_true q155
         go_wp2
         go_ret
         exact ⟨by first | rfl | (simp [errW_none, errW_some] <;> rfl) | (simp [*, errW_none, errW_some] <;> rfl), by repeat (first | (with_reducible first | exact HB.out | apply below_alloc | apply pw_below_drewN | apply below_drew1 | refine below_set ?_ GE154.out) | exact HB.out)⟩
        ·rw [if_neg c11] at H
         have c11b0 : decide (256 < ((rd_L7 l0_1 x18_1).length : Int)) = false := decide_eq_false c11
         have c11b1 : decide (256 < (rd_L7 l0_1 x18_1).length) = false := decide_eq_false (by omega)
         clear c11
         have H' := Aside0.mk H
         clear H
         have p155 : 0 ≤ (x18_1 : Int) := of_decide_eq_true (by first | (with_reducible assumption) | assumption)
         have q155 : x18_1 < (l0_1.length : Int) := of_decide_eq_true (by first | (with_reducible assumption) | assumption)
         obtain ⟨ad155, A155_0, c155_0, e155, hx155_0, hl155_0, hi155_0⟩ := at_L7 HR0_1.out x18_1 p155 q155
         cases e155
         replace hx155_0 := (HB.out.cell (World.block_lt_of_cell? w _ hx155_0)).trans hx155_0
         have HR155_0 := Aside0.mk hi155_0
         have HC155_0 := Aside0.mk hl155_0
         clear hi155_0 hl155_0
         replace p155 := eq_true p155
         replace q155 := eq_true q155
         go_wp2
         go_loopg [27] k1 (fun kq v27 w' => ∃ (x27_2 : Int), v27 = .int .i64 x27_2 ∧ Aside0 (report_node.l1 kq l0_1 (l0_1.length : Int) x18_1 (rd_L7 l0_1 x18_1) ((rd_L7 l0_1 x18_1).length : Int) x27_2 = some r) ∧ Aside0 (kq ≤ k1) ∧ Aside0 (w'.heap[gb154]? = some (.cells #[.bool true, (.slice (some ad155) l0_1.length c0_1)] 92 (0, 0))) ∧ Aside0 (Below w.heap.size w w'))
         case atStart => exact ⟨(0), (by first | rfl | (simp; done) | (simp only [emptyNe_, emptyEq_]; done) | (simp [*]; done)), H', ⟨Nat.le_refl _⟩, ⟨by (with_reducible repeat (first | refine blk_drewN ?_ _ | refine blk_drew ?_ | refine blk_alloc ?_ _)); exact BK154.out⟩, ⟨by repeat (first | (with_reducible first | exact HB.out | apply below_alloc | apply pw_below_drewN | apply below_drew1 | refine below_set ?_ GE154.out) | exact HB.out)⟩⟩
         case round =>
          clear H'; try clear c1; try clear p1; try clear q1; try clear hx1; try clear c2; try clear p2; try clear c3; try clear c3b0; try clear c3b1; try clear c8; try clear c8b0; try clear c9; try clear c9b0; try clear c10; try clear c10b0; try clear c11; try clear c11b0; try clear c11b1; try clear hcz5_0; try clear hcz5_1; try clear hcz7_0; try clear hcz7_1; try clear hfz5_0; try clear hfz5_1; try clear hfz7_0; try clear hfz7_1; try clear hx155_0; try clear p155; try clear p2; try clear q155
          obtain ⟨x27_2, rfl, HA, HK2, BK154, HB⟩ := hrel
          cases gk with
          | zero => exact absurd HA.out (by simp [report_node.l1])
          | succ k2 =>
           have H := HA.out
           clear HA
           simp only [report_node.l1] at H
           by_cases c12 : x27_2 < ((rd_L7 l0_1 x18_1).length : Int)
           ·rw [if_pos c12] at H
            have c12b0 : decide (x27_2 < ((rd_L7 l0_1 x18_1).length : Int)) = true := decide_eq_true c12
            clear c12
            by_cases c13 : 0 ≤ x27_2
            ·rw [if_pos c13] at H
             have c13b0 : decide (0 ≤ x27_2) = true := decide_eq_true c13
             clear c13
             by_cases c14 : x27_2 < ((rd_L7 l0_1 x18_1).length : Int)
             ·rw [if_pos c14] at H
              have c14b0 : decide (x27_2 < ((rd_L7 l0_1 x18_1).length : Int)) = true := decide_eq_true c14
              clear c14
              replace H := Option.bind_eq_some_iff.mp H
              obtain ⟨t158, A150, H⟩ := H
              replace H : (if t158 = 0 then (report_node.l1 k2 l0_1 (l0_1.length : Int) x18_1 (rd_L7 l0_1 x18_1) ((rd_L7 l0_1 x18_1).length : Int) (wrap64 (x27_2 + 1))) else (some t158)) = some r := H
              have A15 := Aside0.mk A150
              clear A150
              by_cases c16 : t158 = 0
              ·rw [if_pos c16] at H
               have c16b0 : (t158 == 0) = true := beq_iff_eq.mpr c16
               have c16b1 : (t158 != 0) = false := bne_eq_false_iff_eq.mpr c16
               clear c16
               have H' := Aside0.mk H
               clear H
               have p156 : 0 ≤ (x27_2 : Int) := of_decide_eq_true (by first | (with_reducible assumption) | assumption)
               have q156 : x27_2 < ((rd_L7 l0_1 x18_1).length : Int) := of_decide_eq_true (by first | (with_reducible assumption) | assumption)
               obtain ⟨ad156, A156_1, c156_1, e156, hx156_0, hx156_1, hl156_1, hi156_1⟩ := at_T96 HR155_0.out x27_2 p156 q156
               cases e156
               replace hx156_0 := (HB.out.cell (World.block_lt_of_cell? w _ hx156_0)).trans hx156_0
               replace hx156_1 := (HB.out.cell (World.block_lt_of_cell? w _ hx156_1)).trans hx156_1
               have HR156_1 := Aside0.mk hi156_1
               have HC156_1 := Aside0.mk hl156_1
               clear hi156_1 hl156_1
               replace p156 := eq_true p156
               replace q156 := eq_true q156
               go_wp2_with (first | ((with_reducible refine gate_dst (N := 6) rfl ?_); refine box_event ?hg (N := 6) ?hd (cs := #[.int .i64 0, .slice none 0 0]) (t := 96) ?hr ?_; (case hd => rfl); (case hg => rfl); (case hr => first | (go_simp; done) | (go_simp; rfl)); intro gb157 hg w17 hbox hb; have n0_ := Aside0.mk (blk_below (g := gb154) (o := .cells #[.bool true, .slice (some ad155) l0_1.length c0_1] 92 (0, 0)) (by (with_reducible repeat (first | refine blk_drewN ?_ _ | refine blk_drew ?_ | refine blk_alloc ?_ _)); exact BK154.out) hb); have n1_ := Aside0.mk (below_step (by repeat (first | (with_reducible first | exact HB.out | apply below_alloc | apply pw_below_drewN | apply below_drew1 | refine below_set ?_ GE154.out) | exact HB.out)) hb); have n2_ := Aside0.mk (hbox); have n3_ := Aside0.mk ((by rw [hg]; exact (below_size (by repeat (first | (with_reducible first | exact HB.out | apply below_alloc | apply pw_below_drewN | apply below_drew1 | refine below_set ?_ GE154.out) | exact HB.out))) : w.heap.size ≤ gb157)); have n4_ := Aside0.mk ((by rw [hg]; exact (below_size (by repeat (first | (with_reducible first | exact HB.out | apply below_alloc | apply pw_below_drewN | apply below_drew1 | refine below_set ?_ GE154.out) | exact HB.out))) : w.heap.size ≤ gb157)); have n5_ := Aside0.mk ((by rw [hg]; exact Nat.ne_of_lt (blk_lt (g := gb154) (o := .cells #[.bool true, .slice (some ad155) l0_1.length c0_1] 92 (0, 0)) (by (with_reducible repeat (first | refine blk_drewN ?_ _ | refine blk_drew ?_ | refine blk_alloc ?_ _)); exact BK154.out)) : gb154 ≠ gb157)); have n6_ := Aside0.mk ((by rw [hg]; exact Nat.ne_of_gt (blk_lt (g := gb154) (o := .cells #[.bool true, .slice (some ad155) l0_1.length c0_1] 92 (0, 0)) (by (with_reducible repeat (first | refine blk_drewN ?_ _ | refine blk_drew ?_ | refine blk_alloc ?_ _)); exact BK154.out)) : gb157 ≠ gb154)); clear BK154; clear HB; have BK154 := n0_; have HB := n1_; have BK157 := n2_; have GW157 := n3_; have GE157 := n4_; have NB154_157 := n5_; have NB157_154 := n6_; clear n0_ n1_ n2_ n3_ n4_ n5_ n6_; clear hb hbox hg; have hnb18 := NB157_154.out; have hnc18 := NB154_157.out; have hcz19_0 : w17.cell? ⟨gb157, 0, none⟩ = some (.int .i64 0) := (blk_cell BK157.out 0).trans rfl; have hcz19_1 : w17.cell? ⟨gb157, 1, none⟩ = some (.slice none 0 0) := (blk_cell BK157.out 1).trans rfl; have hfz19_0 := blk_frozen BK157.out 0; have hfz19_1 := blk_frozen BK157.out 1) | ((with_reducible refine gate_callee (f := 124) rfl ?_); refine goesL_ (some 32) rfl rfl Tryd.func124 (by kernel_rfl) rfl #[.agg #[.int .i64 ((rd_T96 (rd_L7 l0_1 x18_1) x27_2).f0), .slice A156_1 ((rd_T96 (rd_L7 l0_1 x18_1) x27_2).f1).length c156_1]] rfl (by (try simp only [List.map_toArray, List.map_cons, List.map_nil]); first | done | rfl | (simp only [List.length_drop, List.length_take]; rfl)) ?_; (with_reducible refine (report_term.calls k2 ((rd_T96 (rd_L7 l0_1 x18_1) x27_2).f0) _ _ ((rd_T96 (rd_L7 l0_1 x18_1) x27_2).f1) t158 _ ?side1 ?side2 A15.out).mono ?_); (case side1 => exact Kd.C_below HR156_1.out (by repeat (first | (with_reducible first | exact HB.out | apply below_alloc | apply pw_below_drewN | apply below_drew1 | refine below_set ?_ GE154.out | refine below_set ?_ GE157.out) | exact HB.out))); (case side2 => exact HC156_1.out); rintro e w20 ⟨rfl, hb⟩; refine ⟨_, rfl, ?_⟩; have n0_ := Aside0.mk (blk_below (g := gb154) (o := .cells #[.bool true, .slice (some ad155) l0_1.length c0_1] 92 (0, 0)) (by (with_reducible repeat (first | refine blk_drewN ?_ _ | refine blk_drew ?_ | refine blk_alloc ?_ _)); refine blk_far ?_ NB154_157.out _; (with_reducible repeat (first | refine blk_drewN ?_ _ | refine blk_drew ?_ | refine blk_alloc ?_ _)); refine blk_far ?_ NB154_157.out _; (with_reducible repeat (first | refine blk_drewN ?_ _ | refine blk_drew ?_ | refine blk_alloc ?_ _)); exact BK154.out) hb); have n1_ := Aside0.mk (blk_below (g := gb157) (o := .cells #[.int .i64 ((rd_T96 (rd_L7 l0_1 x18_1) x27_2).f0), .slice A156_1 ((rd_T96 (rd_L7 l0_1 x18_1) x27_2).f1).length c156_1] 96 (0, 0)) (by (with_reducible repeat (first | refine blk_drewN ?_ _ | refine blk_drew ?_ | refine blk_alloc ?_ _)); refine blk_put (cs := #[.int .i64 ((rd_T96 (rd_L7 l0_1 x18_1) x27_2).f0), .slice none 0 0]) ?_ 1 _ rfl; (with_reducible repeat (first | refine blk_drewN ?_ _ | refine blk_drew ?_ | refine blk_alloc ?_ _)); refine blk_put (cs := #[.int .i64 0, .slice none 0 0]) ?_ 0 _ rfl; (with_reducible repeat (first | refine blk_drewN ?_ _ | refine blk_drew ?_ | refine blk_alloc ?_ _)); exact BK157.out) hb); have n2_ := Aside0.mk (below_step (by repeat (first | (with_reducible first | exact HB.out | apply below_alloc | apply pw_below_drewN | apply below_drew1 | refine below_set ?_ GE154.out | refine below_set ?_ GE157.out) | exact HB.out)) hb); clear BK154; clear BK157; clear HB; have BK154 := n0_; have BK157 := n1_; have HB := n2_; clear n0_ n1_ n2_; (try clear hb); (try clear hb2); (try clear hk); (try clear hi)))
               go_roundg k2
               case measure => have := HK1.out; have := HK2.out; omega
               case rel => exact ⟨(wrap64 (x27_2 + 1)), (by first | rfl | (simp; done) | (simp only [emptyNe_, emptyEq_]; done) | (simp [*]; done)), H', ⟨by have := HK1.out; have := HK2.out; omega⟩, ⟨by (with_reducible repeat (first | refine blk_drewN ?_ _ | refine blk_drew ?_ | refine blk_alloc ?_ _)); exact BK154.out⟩, ⟨by repeat (first | (with_reducible first | exact HB.out | apply below_alloc | apply pw_below_drewN | apply below_drew1 | refine below_set ?_ GE154.out | refine below_set ?_ GE157.out) | exact HB.out)⟩⟩
              ·rw [if_neg c16] at H
               have c16b0 : (t158 == 0) = false := beq_eq_false_iff_ne.mpr c16
               have c16b1 : (t158 != 0) = true := bne_iff_ne.mpr c16
               obtain rfl := Option.some.inj H
               have p156 : 0 ≤ (x27_2 : Int) := of_decide_eq_true (by first | (with_reducible assumption) | assumption)
               have q156 : x27_2 < ((rd_L7 l0_1 x18_1).length : Int) := of_decide_eq_true (by first | (with_reducible assumption) | assumption)
               obtain ⟨ad156, A156_1, c156_1, e156, hx156_0, hx156_1, hl156_1, hi156_1⟩ := at_T96 HR155_0.out x27_2 p156 q156
               cases e156
               replace hx156_0 := (HB.out.cell (World.block_lt_of_cell? w _ hx156_0)).trans hx156_0
               replace hx156_1 := (HB.out.cell (World.block_lt_of_cell? w _ hx156_1)).trans hx156_1
               have HR156_1 := Aside0.mk hi156_1
               have HC156_1 := Aside0.mk hl156_1
               clear hi156_1 hl156_1
               replace p156 := eq_true p156
               replace q156 := eq_true q156
               go_wp2_with (first | ((with_reducible refine gate_dst (N := 6) rfl ?_); refine box_event ?hg (N := 6) ?hd (cs := #[.int .i64 0, .slice none 0 0]) (t := 96) ?hr ?_; (case hd => rfl); (case hg => rfl); (case hr => first | (go_simp; done) | (go_simp; rfl)); intro gb157 hg w21 hbox hb; have n0_ := Aside0.mk (blk_below (g := gb154) (o := .cells #[.bool true, .slice (some ad155) l0_1.length c0_1] 92 (0, 0)) (by (with_reducible repeat (first | refine blk_drewN ?_ _ | refine blk_drew ?_ | refine blk_alloc ?_ _)); exact BK154.out) hb); have n1_ := Aside0.mk (below_step (by repeat (first | (with_reducible first | exact HB.out | apply below_alloc | apply pw_below_drewN | apply below_drew1 | refine below_set ?_ GE154.out) | exact HB.out)) hb); have n2_ := Aside0.mk (hbox); have n3_ := Aside0.mk ((by rw [hg]; exact (below_size (by repeat (first | (with_reducible first | exact HB.out | apply below_alloc | apply pw_below_drewN | apply below_drew1 | refine below_set ?_ GE154.out) | exact HB.out))) : w.heap.size ≤ gb157)); have n4_ := Aside0.mk ((by rw [hg]; exact (below_size (by repeat (first | (with_reducible first | exact HB.out | apply below_alloc | apply pw_below_drewN | apply below_drew1 | refine below_set ?_ GE154.out) | exact HB.out))) : w.heap.size ≤ gb157)); have n5_ := Aside0.mk ((by rw [hg]; exact Nat.ne_of_lt (blk_lt (g := gb154) (o := .cells #[.bool true, .slice (some ad155) l0_1.length c0_1] 92 (0, 0)) (by (with_reducible repeat (first | refine blk_drewN ?_ _ | refine blk_drew ?_ | refine blk_alloc ?_ _)); exact BK154.out)) : gb154 ≠ gb157)); have n6_ := Aside0.mk ((by rw [hg]; exact Nat.ne_of_gt (blk_lt (g := gb154) (o := .cells #[.bool true, .slice (some ad155) l0_1.length c0_1] 92 (0, 0)) (by (with_reducible repeat (first | refine blk_drewN ?_ _ | refine blk_drew ?_ | refine blk_alloc ?_ _)); exact BK154.out)) : gb157 ≠ gb154)); clear BK154; clear HB; have BK154 := n0_; have HB := n1_; have BK157 := n2_; have GW157 := n3_; have GE157 := n4_; have NB154_157 := n5_; have NB157_154 := n6_; clear n0_ n1_ n2_ n3_ n4_ n5_ n6_; clear hb hbox hg; have hnb22 := NB157_154.out; have hnc22 := NB154_157.out; have hcz23_0 : w21.cell? ⟨gb157, 0, none⟩ = some (.int .i64 0) := (blk_cell BK157.out 0).trans rfl; have hcz23_1 : w21.cell? ⟨gb157, 1, none⟩ = some (.slice none 0 0) := (blk_cell BK157.out 1).trans rfl; have hfz23_0 := blk_frozen BK157.out 0; have hfz23_1 := blk_frozen BK157.out 1) | ((with_reducible refine gate_callee (f := 124) rfl ?_); refine goesL_ (some 32) rfl rfl Tryd.func124 (by kernel_rfl) rfl #[.agg #[.int .i64 ((rd_T96 (rd_L7 l0_1 x18_1) x27_2).f0), .slice A156_1 ((rd_T96 (rd_L7 l0_1 x18_1) x27_2).f1).length c156_1]] rfl (by (try simp only [List.map_toArray, List.map_cons, List.map_nil]); first | done | rfl | (simp only [List.length_drop, List.length_take]; rfl)) ?_; (with_reducible refine (report_term.calls k2 ((rd_T96 (rd_L7 l0_1 x18_1) x27_2).f0) _ _ ((rd_T96 (rd_L7 l0_1 x18_1) x27_2).f1) t158 _ ?side1 ?side2 A15.out).mono ?_); (case side1 => exact Kd.C_below HR156_1.out (by repeat (first | (with_reducible first | exact HB.out | apply below_alloc | apply pw_below_drewN | apply below_drew1 | refine below_set ?_ GE154.out | refine below_set ?_ GE157.out) | exact HB.out))); (case side2 => exact HC156_1.out); rintro e w24 ⟨rfl, hb⟩; refine ⟨_, rfl, ?_⟩; have n0_ := Aside0.mk (blk_below (g := gb154) (o := .cells #[.bool true, .slice (some ad155) l0_1.length c0_1] 92 (0, 0)) (by (with_reducible repeat (first | refine blk_drewN ?_ _ | refine blk_drew ?_ | refine blk_alloc ?_ _)); refine blk_far ?_ NB154_157.out _; (with_reducible repeat (first | refine blk_drewN ?_ _ | refine blk_drew ?_ | refine blk_alloc ?_ _)); refine blk_far ?_ NB154_157.out _; (with_reducible repeat (first | refine blk_drewN ?_ _ | refine blk_drew ?_ | refine blk_alloc ?_ _)); exact BK154.out) hb); have n1_ := Aside0.mk (blk_below (g := gb157) (o := .cells #[.int .i64 ((rd_T96 (rd_L7 l0_1 x18_1) x27_2).f0), .slice A156_1 ((rd_T96 (rd_L7 l0_1 x18_1) x27_2).f1).length c156_1] 96 (0, 0)) (by (with_reducible repeat (first | refine blk_drewN ?_ _ | refine blk_drew ?_ | refine blk_alloc ?_ _)); refine blk_put (cs := #[.int .i64 ((rd_T96 (rd_L7 l0_1 x18_1) x27_2).f0), .slice none 0 0]) ?_ 1 _ rfl; (with_reducible repeat (first | refine blk_drewN ?_ _ | refine blk_drew ?_ | refine blk_alloc ?_ _)); refine blk_put (cs := #[.int .i64 0, .slice none 0 0]) ?_ 0 _ rfl; (with_reducible repeat (first | refine blk_drewN ?_ _ | refine blk_drew ?_ | refine blk_alloc ?_ _)); exact BK157.out) hb); have n2_ := Aside0.mk (below_step (by repeat (first | (with_reducible first | exact HB.out | apply below_alloc | apply pw_below_drewN | apply below_drew1 | refine below_set ?_ GE154.out | refine below_set ?_ GE157.out) | exact HB.out)) hb); clear BK154; clear BK157; clear HB; have BK154 := n0_; have BK157 := n1_; have HB := n2_; clear n0_ n1_ n2_; (try clear hb); (try clear hb2); (try clear hk); (try clear hi)))
               go_ret
               exact ⟨by first | rfl | (simp [errW_none, errW_some] <;> rfl) | (simp [*, errW_none, errW_some] <;> rfl), by repeat (first | (with_reducible first | exact HB.out | apply below_alloc | apply pw_below_drewN | apply below_drew1 | refine below_set ?_ GE154.out | refine below_set ?_ GE157.out) | exact HB.out)⟩
             ·rw [if_neg c14] at H
              exact absurd H (by simp)
            ·rw [if_neg c13] at H
             exact absurd H (by simp)
           ·rw [if_neg c12] at H
            have c12b0 : decide (x27_2 < ((rd_L7 l0_1 x18_1).length : Int)) = false := decide_eq_false c12
            clear c12
            have H' := Aside0.mk H
            clear H
            go_wp2
            go_roundg k2
            case measure => have := HK1.out; have := HK2.out; omega
            case rel => exact ⟨(wrap64 (x18_1 + 1)), (by first | rfl | (simp; done) | (simp only [emptyNe_, emptyEq_]; done) | (simp [*]; done)), H', ⟨by have := HK1.out; have := HK2.out; omega⟩, ⟨by (with_reducible repeat (first | refine blk_drewN ?_ _ | refine blk_drew ?_ | refine blk_alloc ?_ _)); exact BK154.out⟩, ⟨by repeat (first | (with_reducible first | exact HB.out | apply below_alloc | apply pw_below_drewN | apply below_drew1 | refine below_set ?_ GE154.out) | exact HB.out)⟩⟩
       ·rw [if_neg c10] at H
        exact absurd H (by simp)
      ·rw [if_neg c9] at H
       exact absurd H (by simp)
     ·rw [if_neg c8] at H
      have c8b0 : decide (x18_1 < (l0_1.length : Int)) = false := decide_eq_false c8
      clear c8
      obtain rfl := Option.some.inj H
      go_wp2
      go_ret
      exact ⟨by first | rfl | (simp [errW_none, errW_some] <;> rfl) | (simp [*, errW_none, errW_some] <;> rfl), by repeat (first | (with_reducible first | exact HB.out | apply below_alloc | apply pw_below_drewN | apply below_drew1 | refine below_set ?_ GE154.out) | exact HB.out)⟩
 ·replace c2 := Bool.eq_false_iff.mpr c2
  subst c2
  have H1 : (some 2) = some r := by rw [if_neg (show ¬ (false = true) by decide)] at H; exact H
  clear H
  have H := H1
  clear H1
  obtain rfl := Option.some.inj H
  go_enter Tryd.func85, Tryd.ntmps85
  go_wp2_with (first | ((with_reducible refine gate_dst (N := 1) rfl ?_); refine box_event ?hg (N := 1) ?hd (cs := #[.bool false, .slice A0_1 l0_1.length c0_1]) (t := 92) ?hr ?_; (case hd => rfl); (case hg => rfl); (case hr => first | (go_simp; done) | (go_simp; rfl)); intro gb154 hg w25 hbox hb; have n0_ := Aside0.mk (below_step (by repeat (first | (with_reducible first | exact HB.out | apply below_alloc | apply pw_below_drewN | apply below_drew1) | exact HB.out)) hb); have n1_ := Aside0.mk (hbox); have n2_ := Aside0.mk ((by rw [hg]; exact (below_size (by repeat (first | (with_reducible first | exact HB.out | apply below_alloc | apply pw_below_drewN | apply below_drew1) | exact HB.out))) : w.heap.size ≤ gb154)); have n3_ := Aside0.mk ((by rw [hg]; exact (below_size (by repeat (first | (with_reducible first | exact HB.out | apply below_alloc | apply pw_below_drewN | apply below_drew1) | exact HB.out))) : w.heap.size ≤ gb154)); clear HB; have HB := n0_; have BK154 := n1_; have GW154 := n2_; have GE154 := n3_; clear n0_ n1_ n2_ n3_; clear hb hbox hg; have hcz26_0 : w25.cell? ⟨gb154, 0, none⟩ = some (.bool false) := (blk_cell BK154.out 0).trans rfl; have hcz26_1 : w25.cell? ⟨gb154, 1, none⟩ = some (.slice A0_1 l0_1.length c0_1) := (blk_cell BK154.out 1).trans rfl; have hfz26_0 := blk_frozen BK154.out 0; have hfz26_1 := blk_frozen BK154.out 1))
  go_ret
  exact ⟨by first | rfl | (simp [errW_none, errW_some] <;> rfl) | (simp [*, errW_none, errW_some] <;> rfl), by repeat (first | (with_reducible first | exact HB.out | apply below_alloc | apply pw_below_drewN | apply below_drew1 | refine below_set ?_ GE154.out) | exact HB.out)⟩
mutual
def report_Check.j0 : Nat → Bool → Int → List Int → List (S92) → Option (Int)
 | 0, _, _, _, _ => none
 | k + 1, x16, x160000, x160001, x160002 => if x16 = true then (some 1) else (if (x160001.length : Int) = (x160002.length : Int) then (report_Check.l0 k (-1) x160001 (x160001.length : Int) 0 x160000 x160001 x160002) else (some 2))
def report_Check.l0 : Nat → Int → List Int → Int → Int → Int → List Int → List (S92) → Option (Int)
 | 0, _, _, _, _, _, _, _ => none
 | k + 1, x3, x25, x26, x27, x160000, x160001, x160002 => if x27 < x26 then (if 0 ≤ x27 then (if x27 < (x25.length : Int) then (if (rd x25 x27) ≤ x3 then (some 2) else (if (rd x25 x27) ≥ 64 then (some 2) else (report_Check.l0 k (rd x25 x27) x25 x26 (wrap64 (x27 + 1)) x160000 x160001 x160002))) else (none)) else (none)) else (report_Check.l1 k x160002 (x160002.length : Int) 0)
def report_Check.l1 : Nat → List (S92) → Int → Int → Option (Int)
 | 0, _, _, _ => none
 | k + 1, x41, x42, x43 => if x43 < x42 then (if 0 ≤ x43 then (if x43 < (x41.length : Int) then ((report_node.f k ((rd_T92 x41 x43).f0) ((rd_T92 x41 x43).f1)).bind fun t163 => (if t163 = 0 then (report_Check.l1 k x41 x42 (wrap64 (x43 + 1))) else (some t163))) else (none)) else (none)) else (some 0)
end
def report_Check.f (k : Nat) (a0_0 : Int) (l0_1 : List Int) (l0_2 : List (S92)) : Option (Int) := if a0_0 < 0 then (report_Check.j0 k true a0_0 l0_1 l0_2) else (report_Check.j0 k (decide (a0_0 > 1073741824)) a0_0 l0_1 l0_2)
set_option maxHeartbeats 8000000 in
set_option maxRecDepth 100000 in
theorem report_Check.calls (k : Nat) (a0_0 : Int) (A0_1 : Option Addr) (c0_1 : Nat) (l0_1 : List Int) (A0_2 : Option Addr) (c0_2 : Nat) (l0_2 : List (S92)) (r : Int) (w : World) (hr0_1 : Kd.C (Kd.int .i64) w A0_1 l0_1.length l0_1) (hc0_1 : l0_1.length ≤ c0_1) (hr0_2 : Kd.C k92 w A0_2 l0_2.length l0_2) (hc0_2 : l0_2.length ≤ c0_2) (h : report_Check.f k a0_0 l0_1 l0_2 = some r) :
  Calls Tryd.prog 40 #[.agg #[.int .i64 a0_0, .slice A0_1 l0_1.length c0_1, .slice A0_2 l0_2.length c0_2]] w fun e w' => e = .returned (.int .i64 r) ∧ Below w.heap.size w w' := by
 have hu25 := Tryd.underlying25
 have hu92 := Tryd.underlying92
 have HR0_1 := Aside0.mk hr0_1
 have HC0_1 := Aside0.mk hc0_1
 clear hr0_1 hc0_1
 have HR0_2 := Aside0.mk hr0_2
 have HC0_2 := Aside0.mk hc0_2
 clear hr0_2 hc0_2
 have HB := Aside0.mk (Below.refl w.heap.size w)
 have H : (if a0_0 < 0 then (report_Check.j0 k true a0_0 l0_1 l0_2) else (report_Check.j0 k (decide (a0_0 > 1073741824)) a0_0 l0_1 l0_2)) = some r := h
 clear h
 have HC2 := Aside0.mk H
 clear H
 go_enter Tryd.func40, Tryd.ntmps40
 go_upto_region 1 with (first | ((with_reducible refine gate_dst (N := 1) rfl ?_); refine box_event ?hg (N := 1) ?hd (cs := #[.int .i64 a0_0, .slice A0_1 l0_1.length c0_1, .slice A0_2 l0_2.length c0_2]) (t := 25) ?hr ?_; (case hd => rfl); (case hg => rfl); (case hr => first | (go_simp; done) | (go_simp; rfl)); intro gb159 hg w3 hbox hb; have n0_ := Aside0.mk (below_step (by repeat (first | (with_reducible first | exact HB.out | apply below_alloc | apply pw_below_drewN | apply below_drew1) | exact HB.out)) hb); have n1_ := Aside0.mk (hbox); have n2_ := Aside0.mk ((by rw [hg]; exact (below_size (by repeat (first | (with_reducible first | exact HB.out | apply below_alloc | apply pw_below_drewN | apply below_drew1) | exact HB.out))) : w.heap.size ≤ gb159)); have n3_ := Aside0.mk ((by rw [hg]; exact (below_size (by repeat (first | (with_reducible first | exact HB.out | apply below_alloc | apply pw_below_drewN | apply below_drew1) | exact HB.out))) : w.heap.size ≤ gb159)); clear HB; have HB := n0_; have BK159 := n1_; have GW159 := n2_; have GE159 := n3_; clear n0_ n1_ n2_ n3_; clear hb hbox hg))
 (try simp only [Act.put, List.setIfInBounds_toArray, List.set_cons_zero, List.set_cons_succ])
 go_cut [16] (fun v16 wc => ∃ (kq : Nat) (x16_1 : Bool), v16 = .bool x16_1 ∧ Aside0 (report_Check.j0 kq x16_1 a0_0 l0_1 l0_2 = some r) ∧ Aside0 (kq ≤ k) ∧ Aside0 (wc.heap[gb159]? = some (.cells #[.int .i64 a0_0, (.slice A0_1 l0_1.length c0_1), (.slice A0_2 l0_2.length c0_2)] 25 (0, 0))) ∧ Aside0 (Below w.heap.size w wc))
 case first =>
  have H := HC2.out
  clear HC2
  by_cases c4 : a0_0 < 0
  ·rw [if_pos c4] at H
   have c4b0 : decide (a0_0 < 0) = true := decide_eq_true c4
   clear c4
   (first | rw [c4b0] | (simp only [i64_w, i32_w]; rw [c4b0]) | skip)
   have H' := Aside0.mk H
   clear H
   have hcz5_0 : w3.cell? ⟨gb159, 0, none⟩ = some (.int .i64 a0_0) := (blk_cell BK159.out 0).trans rfl
   have hcz5_1 : w3.cell? ⟨gb159, 1, none⟩ = some (.slice A0_1 l0_1.length c0_1) := (blk_cell BK159.out 1).trans rfl
   have hcz5_2 : w3.cell? ⟨gb159, 2, none⟩ = some (.slice A0_2 l0_2.length c0_2) := (blk_cell BK159.out 2).trans rfl
   have hfz5_0 := blk_frozen BK159.out 0
   have hfz5_1 := blk_frozen BK159.out 1
   have hfz5_2 := blk_frozen BK159.out 2
   go_wp2
   go_meet
   case rel => exact ⟨_, (true), (by first | rfl | (simp; done) | (simp only [emptyNe_, emptyEq_]; done) | (simp [*]; done)), H', ⟨by first | omega | exact Nat.le_refl _⟩, ⟨by (with_reducible repeat (first | refine blk_drewN ?_ _ | refine blk_drew ?_ | refine blk_alloc ?_ _)); exact BK159.out⟩, ⟨by repeat (first | (with_reducible first | exact HB.out | apply below_alloc | apply pw_below_drewN | apply below_drew1 | refine below_set ?_ GE159.out) | exact HB.out)⟩⟩
  ·rw [if_neg c4] at H
   have c4b0 : decide (a0_0 < 0) = false := decide_eq_false c4
   clear c4
   (first | rw [c4b0] | (simp only [i64_w, i32_w]; rw [c4b0]) | skip)
   have H' := Aside0.mk H
   clear H
   have hcz6_0 : w3.cell? ⟨gb159, 0, none⟩ = some (.int .i64 a0_0) := (blk_cell BK159.out 0).trans rfl
   have hcz6_1 : w3.cell? ⟨gb159, 1, none⟩ = some (.slice A0_1 l0_1.length c0_1) := (blk_cell BK159.out 1).trans rfl
   have hcz6_2 : w3.cell? ⟨gb159, 2, none⟩ = some (.slice A0_2 l0_2.length c0_2) := (blk_cell BK159.out 2).trans rfl
   have hfz6_0 := blk_frozen BK159.out 0
   have hfz6_1 := blk_frozen BK159.out 1
   have hfz6_2 := blk_frozen BK159.out 2
   go_wp2
   go_meet
   case rel => exact ⟨_, (decide (a0_0 > 1073741824)), (by first | rfl | (simp; done) | (simp only [emptyNe_, emptyEq_]; done) | (simp [*]; done)), H', ⟨by first | omega | exact Nat.le_refl _⟩, ⟨by (with_reducible repeat (first | refine blk_drewN ?_ _ | refine blk_drew ?_ | refine blk_alloc ?_ _)); exact BK159.out⟩, ⟨by repeat (first | (with_reducible first | exact HB.out | apply below_alloc | apply pw_below_drewN | apply below_drew1 | refine below_set ?_ GE159.out) | exact HB.out)⟩⟩
 case rest =>
  clear HC2; try clear p2; try clear c4; try clear c4b0; try clear hcz5_0; try clear hcz5_1; try clear hcz5_2; try clear hcz6_0; try clear hcz6_1; try clear hcz6_2; try clear hfz5_0; try clear hfz5_1; try clear hfz5_2; try clear hfz6_0; try clear hfz6_1; try clear hfz6_2
  obtain ⟨kq, x16_1, rfl, HA, HJ1, BK159, HB⟩ := hcut
  cases kq with
  | zero => exact absurd HA.out (by simp [report_Check.j0])
  | succ kj1 =>
   have H := HA.out
   clear HA
   simp only [report_Check.j0] at H
   by_cases c7 : x16_1 = true
   ·subst c7
    have H1 : (some 1) = some r := by rw [if_pos rfl] at H; exact H
    clear H
    have H := H1
    clear H1
    obtain rfl := Option.some.inj H
    go_wp2
    go_ret
    exact ⟨by first | rfl | (simp [errW_none, errW_some] <;> rfl) | (simp [*, errW_none, errW_some] <;> rfl), by repeat (first | (with_reducible first | exact HB.out | apply below_alloc | apply pw_below_drewN | apply below_drew1 | refine below_set ?_ GE159.out) | exact HB.out)⟩
   ·replace c7 := Bool.eq_false_iff.mpr c7
    subst c7
    have H1 : (if (l0_1.length : Int) = (l0_2.length : Int) then (report_Check.l0 kj1 (-1) l0_1 (l0_1.length : Int) 0 a0_0 l0_1 l0_2) else (some 2)) = some r := by rw [if_neg (show ¬ (false = true) by decide)] at H; exact H
    clear H
    have H := H1
    clear H1
    by_cases c8 : (l0_1.length : Int) = (l0_2.length : Int)
    ·rw [if_pos c8] at H
     have c8b0 : ((l0_1.length : Int) == (l0_2.length : Int)) = true := beq_iff_eq.mpr c8
     have c8b1 : ((l0_1.length : Int) != (l0_2.length : Int)) = false := bne_eq_false_iff_eq.mpr c8
     have c8b2 : (l0_1.length == l0_2.length) = true := by first | simpa using c8 | (simp at c8 ⊢; omega)
     clear c8
     have H' := Aside0.mk H
     clear H
     have hcz9_0 : wc.cell? ⟨gb159, 0, none⟩ = some (.int .i64 a0_0) := (blk_cell BK159.out 0).trans rfl
     have hcz9_1 : wc.cell? ⟨gb159, 1, none⟩ = some (.slice A0_1 l0_1.length c0_1) := (blk_cell BK159.out 1).trans rfl
     have hcz9_2 : wc.cell? ⟨gb159, 2, none⟩ = some (.slice A0_2 l0_2.length c0_2) := (blk_cell BK159.out 2).trans rfl
     have hfz9_0 := blk_frozen BK159.out 0
     have hfz9_1 := blk_frozen BK159.out 1
     have hfz9_2 := blk_frozen BK159.out 2
     go_wp2
     go_loopg [3, 27] kj1 (fun kq v3 v27 w' => ∃ (x3_2 : Int) (x27_2 : Int), v3 = .int .i64 x3_2 ∧ v27 = .int .i64 x27_2 ∧ Aside0 (report_Check.l0 kq x3_2 l0_1 (l0_1.length : Int) x27_2 a0_0 l0_1 l0_2 = some r) ∧ Aside0 (kq ≤ kj1) ∧ Aside0 (w'.heap[gb159]? = some (.cells #[.int .i64 a0_0, (.slice A0_1 l0_1.length c0_1), (.slice A0_2 l0_2.length c0_2)] 25 (0, 0))) ∧ Aside0 (Below w.heap.size w w'))
     case atStart => exact ⟨((-1)), (0), (by first | rfl | (simp; done) | (simp only [emptyNe_, emptyEq_]; done) | (simp [*]; done)), (by first | rfl | (simp; done) | (simp only [emptyNe_, emptyEq_]; done) | (simp [*]; done)), H', ⟨Nat.le_refl _⟩, ⟨by (with_reducible repeat (first | refine blk_drewN ?_ _ | refine blk_drew ?_ | refine blk_alloc ?_ _)); exact BK159.out⟩, ⟨by repeat (first | (with_reducible first | exact HB.out | apply below_alloc | apply pw_below_drewN | apply below_drew1 | refine below_set ?_ GE159.out) | exact HB.out)⟩⟩
     case round =>
      clear H'; try clear p2; try clear c4; try clear c4b0; try clear c7; try clear c8; try clear c8b0; try clear c8b1; try clear c8b2; try clear hcz5_0; try clear hcz5_1; try clear hcz5_2; try clear hcz6_0; try clear hcz6_1; try clear hcz6_2; try clear hcz9_0; try clear hcz9_1; try clear hcz9_2; try clear hfz5_0; try clear hfz5_1; try clear hfz5_2; try clear hfz6_0; try clear hfz6_1; try clear hfz6_2; try clear hfz9_0; try clear hfz9_1; try clear hfz9_2; try clear p2
      obtain ⟨x3_2, x27_2, rfl, rfl, HA, HK2, BK159, HB⟩ := hrel
      cases gk with
      | zero => exact absurd HA.out (by simp [report_Check.l0])
      | succ k2 =>
       have H := HA.out
       clear HA
       simp only [report_Check.l0] at H
       by_cases c10 : x27_2 < (l0_1.length : Int)
       ·rw [if_pos c10] at H
        have c10b0 : decide (x27_2 < (l0_1.length : Int)) = true := decide_eq_true c10
        clear c10
        by_cases c11 : 0 ≤ x27_2
        ·rw [if_pos c11] at H
         have c11b0 : decide (0 ≤ x27_2) = true := decide_eq_true c11
         clear c11
         by_cases c12 : x27_2 < (l0_1.length : Int)
         ·rw [if_pos c12] at H
          have c12b0 : decide (x27_2 < (l0_1.length : Int)) = true := decide_eq_true c12
          clear c12
          by_cases c13 : (rd l0_1 x27_2) ≤ x3_2
          ·rw [if_pos c13] at H
           have c13b0 : decide ((rd l0_1 x27_2) ≤ x3_2) = true := decide_eq_true c13
           clear c13
           obtain rfl := Option.some.inj H
           have p160 : 0 ≤ (x27_2 : Int) := of_decide_eq_true (by first | (with_reducible assumption) | assumption)
           have q160 : x27_2 < (l0_1.length : Int) := of_decide_eq_true (by first | (with_reducible assumption) | assumption)
           obtain ⟨ad160, e160, hx160_0⟩ := Kd.at_int HR0_1.out x27_2 p160 q160
           cases e160
           replace hx160_0 := (HB.out.cell (World.block_lt_of_cell? w _ hx160_0)).trans hx160_0
           replace p160 := eq_true p160
           replace q160 := eq_true q160
           go_wp2
           go_ret
           exact ⟨by first | rfl | (simp [errW_none, errW_some] <;> rfl) | (simp [*, errW_none, errW_some] <;> rfl), by repeat (first | (with_reducible first | exact HB.out | apply below_alloc | apply pw_below_drewN | apply below_drew1 | refine below_set ?_ GE159.out) | exact HB.out)⟩
          ·rw [if_neg c13] at H
           have c13b0 : decide ((rd l0_1 x27_2) ≤ x3_2) = false := decide_eq_false c13
           clear c13
           by_cases c14 : (rd l0_1 x27_2) ≥ 64
           ·rw [if_pos c14] at H
            have c14b0 : decide (64 ≤ (rd l0_1 x27_2)) = true := decide_eq_true c14
            clear c14
            obtain rfl := Option.some.inj H
            have p160 : 0 ≤ (x27_2 : Int) := of_decide_eq_true (by first | (with_reducible assumption) | assumption)
            have q160 : x27_2 < (l0_1.length : Int) := of_decide_eq_true (by first | (with_reducible assumption) | assumption)
            obtain ⟨ad160, e160, hx160_0⟩ := Kd.at_int HR0_1.out x27_2 p160 q160
            cases e160
            replace hx160_0 := (HB.out.cell (World.block_lt_of_cell? w _ hx160_0)).trans hx160_0
            replace p160 := eq_true p160
            replace q160 := eq_true q160
            go_wp2
            go_ret
            exact ⟨by first | rfl | (simp [errW_none, errW_some] <;> rfl) | (simp [*, errW_none, errW_some] <;> rfl), by repeat (first | (with_reducible first | exact HB.out | apply below_alloc | apply pw_below_drewN | apply below_drew1 | refine below_set ?_ GE159.out) | exact HB.out)⟩
           ·rw [if_neg c14] at H
            have c14b0 : decide (64 ≤ (rd l0_1 x27_2)) = false := decide_eq_false c14
            clear c14
            have H' := Aside0.mk H
            clear H
            have p160 : 0 ≤ (x27_2 : Int) := of_decide_eq_true (by first | (with_reducible assumption) | assumption)
            have q160 : x27_2 < (l0_1.length : Int) := of_decide_eq_true (by first | (with_reducible assumption) | assumption)
            obtain ⟨ad160, e160, hx160_0⟩ := Kd.at_int HR0_1.out x27_2 p160 q160
            cases e160
            replace hx160_0 := (HB.out.cell (World.block_lt_of_cell? w _ hx160_0)).trans hx160_0
            replace p160 := eq_true p160
            replace q160 := eq_true q160
            go_wp2
            go_roundg k2
            case measure => have := HJ1.out; have := HK2.out; omega
            case rel => exact ⟨(rd l0_1 x27_2), (wrap64 (x27_2 + 1)), (by first | rfl | (simp; done) | (simp only [emptyNe_, emptyEq_]; done) | (simp [*]; done)), (by first | rfl | (simp; done) | (simp only [emptyNe_, emptyEq_]; done) | (simp [*]; done)), H', ⟨by have := HJ1.out; have := HK2.out; omega⟩, ⟨by (with_reducible repeat (first | refine blk_drewN ?_ _ | refine blk_drew ?_ | refine blk_alloc ?_ _)); exact BK159.out⟩, ⟨by repeat (first | (with_reducible first | exact HB.out | apply below_alloc | apply pw_below_drewN | apply below_drew1 | refine below_set ?_ GE159.out) | exact HB.out)⟩⟩
         ·rw [if_neg c12] at H
          exact absurd H (by simp)
        ·rw [if_neg c11] at H
         exact absurd H (by simp)
       ·rw [if_neg c10] at H
        have c10b0 : decide (x27_2 < (l0_1.length : Int)) = false := decide_eq_false c10
        clear c10
        have H' := Aside0.mk H
        clear H
        have hcz15_0 : wr.cell? ⟨gb159, 0, none⟩ = some (.int .i64 a0_0) := (blk_cell BK159.out 0).trans rfl
        have hcz15_1 : wr.cell? ⟨gb159, 1, none⟩ = some (.slice A0_1 l0_1.length c0_1) := (blk_cell BK159.out 1).trans rfl
        have hcz15_2 : wr.cell? ⟨gb159, 2, none⟩ = some (.slice A0_2 l0_2.length c0_2) := (blk_cell BK159.out 2).trans rfl
        have hfz15_0 := blk_frozen BK159.out 0
        have hfz15_1 := blk_frozen BK159.out 1
        have hfz15_2 := blk_frozen BK159.out 2
        go_wp2
        go_loopg [43] k2 (fun kq v43 w' => ∃ (x43_3 : Int), v43 = .int .i64 x43_3 ∧ Aside0 (report_Check.l1 kq l0_2 (l0_2.length : Int) x43_3 = some r) ∧ Aside0 (kq ≤ k2) ∧ Aside0 (w'.heap[gb159]? = some (.cells #[.int .i64 a0_0, (.slice A0_1 l0_1.length c0_1), (.slice A0_2 l0_2.length c0_2)] 25 (0, 0))) ∧ Aside0 (Below w.heap.size w w'))
        case atStart => exact ⟨(0), (by first | rfl | (simp; done) | (simp only [emptyNe_, emptyEq_]; done) | (simp [*]; done)), H', ⟨Nat.le_refl _⟩, ⟨by (with_reducible repeat (first | refine blk_drewN ?_ _ | refine blk_drew ?_ | refine blk_alloc ?_ _)); exact BK159.out⟩, ⟨by repeat (first | (with_reducible first | exact HB.out | apply below_alloc | apply pw_below_drewN | apply below_drew1 | refine below_set ?_ GE159.out) | exact HB.out)⟩⟩
        case round =>
         clear H'; try clear c1; try clear p1; try clear q1; try clear hx1; try clear p2; try clear c4; try clear c4b0; try clear p6; try clear c7; try clear c8; try clear c8b0; try clear c8b1; try clear c8b2; try clear c10; try clear c10b0; try clear c11; try clear c11b0; try clear c12; try clear c12b0; try clear c13; try clear c13b0; try clear c14; try clear c14b0; try clear hcz15_0; try clear hcz15_1; try clear hcz15_2; try clear hcz5_0; try clear hcz5_1; try clear hcz5_2; try clear hcz6_0; try clear hcz6_1; try clear hcz6_2; try clear hcz9_0; try clear hcz9_1; try clear hcz9_2; try clear hfz15_0; try clear hfz15_1; try clear hfz15_2; try clear hfz5_0; try clear hfz5_1; try clear hfz5_2; try clear hfz6_0; try clear hfz6_1; try clear hfz6_2; try clear hfz9_0; try clear hfz9_1; try clear hfz9_2; try clear hx160_0; try clear p160; try clear p2; try clear q160
         obtain ⟨x43_3, rfl, HA, HK3, BK159, HB⟩ := hrel
         cases gk with
         | zero => exact absurd HA.out (by simp [report_Check.l1])
         | succ k3 =>
          have H := HA.out
          clear HA
          simp only [report_Check.l1] at H
          by_cases c16 : x43_3 < (l0_2.length : Int)
          ·rw [if_pos c16] at H
           have c16b0 : decide (x43_3 < (l0_2.length : Int)) = true := decide_eq_true c16
           clear c16
           by_cases c17 : 0 ≤ x43_3
           ·rw [if_pos c17] at H
            have c17b0 : decide (0 ≤ x43_3) = true := decide_eq_true c17
            clear c17
            by_cases c18 : x43_3 < (l0_2.length : Int)
            ·rw [if_pos c18] at H
             have c18b0 : decide (x43_3 < (l0_2.length : Int)) = true := decide_eq_true c18
             clear c18
             replace H := Option.bind_eq_some_iff.mp H
             obtain ⟨t163, A190, H⟩ := H
             replace H : (if t163 = 0 then (report_Check.l1 k3 l0_2 (l0_2.length : Int) (wrap64 (x43_3 + 1))) else (some t163)) = some r := H
             have A19 := Aside0.mk A190
             clear A190
             by_cases c20 : t163 = 0
             ·rw [if_pos c20] at H
              have c20b0 : (t163 == 0) = true := beq_iff_eq.mpr c20
              have c20b1 : (t163 != 0) = false := bne_eq_false_iff_eq.mpr c20
              clear c20
              have H' := Aside0.mk H
              clear H
              have p161 : 0 ≤ (x43_3 : Int) := of_decide_eq_true (by first | (with_reducible assumption) | assumption)
              have q161 : x43_3 < (l0_2.length : Int) := of_decide_eq_true (by first | (with_reducible assumption) | assumption)
              obtain ⟨ad161, A161_1, c161_1, e161, hx161_0, hx161_1, hl161_1, hi161_1⟩ := at_T92 HR0_2.out x43_3 p161 q161
              cases e161
              replace hx161_0 := (HB.out.cell (World.block_lt_of_cell? w _ hx161_0)).trans hx161_0
              replace hx161_1 := (HB.out.cell (World.block_lt_of_cell? w _ hx161_1)).trans hx161_1
              have HR161_1 := Aside0.mk hi161_1
              have HC161_1 := Aside0.mk hl161_1
              clear hi161_1 hl161_1
              replace p161 := eq_true p161
              replace q161 := eq_true q161
              go_wp2_with (first | ((with_reducible refine gate_dst (N := 7) rfl ?_); refine box_event ?hg (N := 7) ?hd (cs := #[.bool false, .slice none 0 0]) (t := 92) ?hr ?_; (case hd => rfl); (case hg => rfl); (case hr => first | (go_simp; done) | (go_simp; rfl)); intro gb162 hg w21 hbox hb; have n0_ := Aside0.mk (blk_below (g := gb159) (o := .cells #[.int .i64 a0_0, .slice A0_1 l0_1.length c0_1, .slice (some ad161) l0_2.length c0_2] 25 (0, 0)) (by (with_reducible repeat (first | refine blk_drewN ?_ _ | refine blk_drew ?_ | refine blk_alloc ?_ _)); exact BK159.out) hb); have n1_ := Aside0.mk (below_step (by repeat (first | (with_reducible first | exact HB.out | apply below_alloc | apply pw_below_drewN | apply below_drew1 | refine below_set ?_ GE159.out) | exact HB.out)) hb); have n2_ := Aside0.mk (hbox); have n3_ := Aside0.mk ((by rw [hg]; exact (below_size (by repeat (first | (with_reducible first | exact HB.out | apply below_alloc | apply pw_below_drewN | apply below_drew1 | refine below_set ?_ GE159.out) | exact HB.out))) : w.heap.size ≤ gb162)); have n4_ := Aside0.mk ((by rw [hg]; exact (below_size (by repeat (first | (with_reducible first | exact HB.out | apply below_alloc | apply pw_below_drewN | apply below_drew1 | refine below_set ?_ GE159.out) | exact HB.out))) : w.heap.size ≤ gb162)); have n5_ := Aside0.mk ((by rw [hg]; exact Nat.ne_of_lt (blk_lt (g := gb159) (o := .cells #[.int .i64 a0_0, .slice A0_1 l0_1.length c0_1, .slice (some ad161) l0_2.length c0_2] 25 (0, 0)) (by (with_reducible repeat (first | refine blk_drewN ?_ _ | refine blk_drew ?_ | refine blk_alloc ?_ _)); exact BK159.out)) : gb159 ≠ gb162)); have n6_ := Aside0.mk ((by rw [hg]; exact Nat.ne_of_gt (blk_lt (g := gb159) (o := .cells #[.int .i64 a0_0, .slice A0_1 l0_1.length c0_1, .slice (some ad161) l0_2.length c0_2] 25 (0, 0)) (by (with_reducible repeat (first | refine blk_drewN ?_ _ | refine blk_drew ?_ | refine blk_alloc ?_ _)); exact BK159.out)) : gb162 ≠ gb159)); clear BK159; clear HB; have BK159 := n0_; have HB := n1_; have BK162 := n2_; have GW162 := n3_; have GE162 := n4_; have NB159_162 := n5_; have NB162_159 := n6_; clear n0_ n1_ n2_ n3_ n4_ n5_ n6_; clear hb hbox hg; have hnb22 := NB162_159.out; have hnc22 := NB159_162.out; have hcz23_0 : w21.cell? ⟨gb162, 0, none⟩ = some (.bool false) := (blk_cell BK162.out 0).trans rfl; have hcz23_1 : w21.cell? ⟨gb162, 1, none⟩ = some (.slice none 0 0) := (blk_cell BK162.out 1).trans rfl; have hfz23_0 := blk_frozen BK162.out 0; have hfz23_1 := blk_frozen BK162.out 1) | ((with_reducible refine gate_callee (f := 85) rfl ?_); refine goesL_ (some 48) rfl rfl Tryd.func85 (by kernel_rfl) rfl #[.agg #[.bool ((rd_T92 l0_2 x43_3).f0), .slice A161_1 ((rd_T92 l0_2 x43_3).f1).length c161_1]] rfl (by (try simp only [List.map_toArray, List.map_cons, List.map_nil]); first | done | rfl | (simp only [List.length_drop, List.length_take]; rfl)) ?_; (with_reducible refine (report_node.calls k3 ((rd_T92 l0_2 x43_3).f0) _ _ ((rd_T92 l0_2 x43_3).f1) t163 _ ?side1 ?side2 A19.out).mono ?_); (case side1 => exact Kd.C_below HR161_1.out (by repeat (first | (with_reducible first | exact HB.out | apply below_alloc | apply pw_below_drewN | apply below_drew1 | refine below_set ?_ GE159.out | refine below_set ?_ GE162.out) | exact HB.out))); (case side2 => exact HC161_1.out); rintro e w24 ⟨rfl, hb⟩; refine ⟨_, rfl, ?_⟩; have n0_ := Aside0.mk (blk_below (g := gb159) (o := .cells #[.int .i64 a0_0, .slice A0_1 l0_1.length c0_1, .slice (some ad161) l0_2.length c0_2] 25 (0, 0)) (by (with_reducible repeat (first | refine blk_drewN ?_ _ | refine blk_drew ?_ | refine blk_alloc ?_ _)); refine blk_far ?_ NB159_162.out _; (with_reducible repeat (first | refine blk_drewN ?_ _ | refine blk_drew ?_ | refine blk_alloc ?_ _)); refine blk_far ?_ NB159_162.out _; (with_reducible repeat (first | refine blk_drewN ?_ _ | refine blk_drew ?_ | refine blk_alloc ?_ _)); exact BK159.out) hb); have n1_ := Aside0.mk (blk_below (g := gb162) (o := .cells #[.bool ((rd_T92 l0_2 x43_3).f0), .slice A161_1 ((rd_T92 l0_2 x43_3).f1).length c161_1] 92 (0, 0)) (by (with_reducible repeat (first | refine blk_drewN ?_ _ | refine blk_drew ?_ | refine blk_alloc ?_ _)); refine blk_put (cs := #[.bool ((rd_T92 l0_2 x43_3).f0), .slice none 0 0]) ?_ 1 _ rfl; (with_reducible repeat (first | refine blk_drewN ?_ _ | refine blk_drew ?_ | refine blk_alloc ?_ _)); refine blk_put (cs := #[.bool false, .slice none 0 0]) ?_ 0 _ rfl; (with_reducible repeat (first | refine blk_drewN ?_ _ | refine blk_drew ?_ | refine blk_alloc ?_ _)); exact BK162.out) hb); have n2_ := Aside0.mk (below_step (by repeat (first | (with_reducible first | exact HB.out | apply below_alloc | apply pw_below_drewN | apply below_drew1 | refine below_set ?_ GE159.out | refine below_set ?_ GE162.out) | exact HB.out)) hb); clear BK159; clear BK162; clear HB; have BK159 := n0_; have BK162 := n1_; have HB := n2_; clear n0_ n1_ n2_; (try clear hb); (try clear hb2); (try clear hk); (try clear hi)))
              go_roundg k3
              case measure => have := HJ1.out; have := HK2.out; have := HK3.out; omega
              case rel => exact ⟨(wrap64 (x43_3 + 1)), (by first | rfl | (simp; done) | (simp only [emptyNe_, emptyEq_]; done) | (simp [*]; done)), H', ⟨by have := HJ1.out; have := HK2.out; have := HK3.out; omega⟩, ⟨by (with_reducible repeat (first | refine blk_drewN ?_ _ | refine blk_drew ?_ | refine blk_alloc ?_ _)); exact BK159.out⟩, ⟨by repeat (first | (with_reducible first | exact HB.out | apply below_alloc | apply pw_below_drewN | apply below_drew1 | refine below_set ?_ GE159.out | refine below_set ?_ GE162.out) | exact HB.out)⟩⟩
             ·rw [if_neg c20] at H
              have c20b0 : (t163 == 0) = false := beq_eq_false_iff_ne.mpr c20
              have c20b1 : (t163 != 0) = true := bne_iff_ne.mpr c20
              obtain rfl := Option.some.inj H
              have p161 : 0 ≤ (x43_3 : Int) := of_decide_eq_true (by first | (with_reducible assumption) | assumption)
              have q161 : x43_3 < (l0_2.length : Int) := of_decide_eq_true (by first | (with_reducible assumption) | assumption)
              obtain ⟨ad161, A161_1, c161_1, e161, hx161_0, hx161_1, hl161_1, hi161_1⟩ := at_T92 HR0_2.out x43_3 p161 q161
              cases e161
              replace hx161_0 := (HB.out.cell (World.block_lt_of_cell? w _ hx161_0)).trans hx161_0
              replace hx161_1 := (HB.out.cell (World.block_lt_of_cell? w _ hx161_1)).trans hx161_1
              have HR161_1 := Aside0.mk hi161_1
              have HC161_1 := Aside0.mk hl161_1
              clear hi161_1 hl161_1
              replace p161 := eq_true p161
              replace q161 := eq_true q161
              go_wp2_with (first | ((with_reducible refine gate_dst (N := 7) rfl ?_); refine box_event ?hg (N := 7) ?hd (cs := #[.bool false, .slice none 0 0]) (t := 92) ?hr ?_; (case hd => rfl); (case hg => rfl); (case hr => first | (go_simp; done) | (go_simp; rfl)); intro gb162 hg w25 hbox hb; have n0_ := Aside0.mk (blk_below (g := gb159) (o := .cells #[.int .i64 a0_0, .slice A0_1 l0_1.length c0_1, .slice (some ad161) l0_2.length c0_2] 25 (0, 0)) (by (with_reducible repeat (first | refine blk_drewN ?_ _ | refine blk_drew ?_ | refine blk_alloc ?_ _)); exact BK159.out) hb); have n1_ := Aside0.mk (below_step (by repeat (first | (with_reducible first | exact HB.out | apply below_alloc | apply pw_below_drewN | apply below_drew1 | refine below_set ?_ GE159.out) | exact HB.out)) hb); have n2_ := Aside0.mk (hbox); have n3_ := Aside0.mk ((by rw [hg]; exact (below_size (by repeat (first | (with_reducible first | exact HB.out | apply below_alloc | apply pw_below_drewN | apply below_drew1 | refine below_set ?_ GE159.out) | exact HB.out))) : w.heap.size ≤ gb162)); have n4_ := Aside0.mk ((by rw [hg]; exact (below_size (by repeat (first | (with_reducible first | exact HB.out | apply below_alloc | apply pw_below_drewN | apply below_drew1 | refine below_set ?_ GE159.out) | exact HB.out))) : w.heap.size ≤ gb162)); have n5_ := Aside0.mk ((by rw [hg]; exact Nat.ne_of_lt (blk_lt (g := gb159) (o := .cells #[.int .i64 a0_0, .slice A0_1 l0_1.length c0_1, .slice (some ad161) l0_2.length c0_2] 25 (0, 0)) (by (with_reducible repeat (first | refine blk_drewN ?_ _ | refine blk_drew ?_ | refine blk_alloc ?_ _)); exact BK159.out)) : gb159 ≠ gb162)); have n6_ := Aside0.mk ((by rw [hg]; exact Nat.ne_of_gt (blk_lt (g := gb159) (o := .cells #[.int .i64 a0_0, .slice A0_1 l0_1.length c0_1, .slice (some ad161) l0_2.length c0_2] 25 (0, 0)) (by (with_reducible repeat (first | refine blk_drewN ?_ _ | refine blk_drew ?_ | refine blk_alloc ?_ _)); exact BK159.out)) : gb162 ≠ gb159)); clear BK159; clear HB; have BK159 := n0_; have HB := n1_; have BK162 := n2_; have GW162 := n3_; have GE162 := n4_; have NB159_162 := n5_; have NB162_159 := n6_; clear n0_ n1_ n2_ n3_ n4_ n5_ n6_; clear hb hbox hg; have hnb26 := NB162_159.out; have hnc26 := NB159_162.out; have hcz27_0 : w25.cell? ⟨gb162, 0, none⟩ = some (.bool false) := (blk_cell BK162.out 0).trans rfl; have hcz27_1 : w25.cell? ⟨gb162, 1, none⟩ = some (.slice none 0 0) := (blk_cell BK162.out 1).trans rfl; have hfz27_0 := blk_frozen BK162.out 0; have hfz27_1 := blk_frozen BK162.out 1) | ((with_reducible refine gate_callee (f := 85) rfl ?_); refine goesL_ (some 48) rfl rfl Tryd.func85 (by kernel_rfl) rfl #[.agg #[.bool ((rd_T92 l0_2 x43_3).f0), .slice A161_1 ((rd_T92 l0_2 x43_3).f1).length c161_1]] rfl (by (try simp only [List.map_toArray, List.map_cons, List.map_nil]); first | done | rfl | (simp only [List.length_drop, List.length_take]; rfl)) ?_; (with_reducible refine (report_node.calls k3 ((rd_T92 l0_2 x43_3).f0) _ _ ((rd_T92 l0_2 x43_3).f1) t163 _ ?side1 ?side2 A19.out).mono ?_); (case side1 => exact Kd.C_below HR161_1.out (by repeat (first | (with_reducible first | exact HB.out | apply below_alloc | apply pw_below_drewN | apply below_drew1 | refine below_set ?_ GE159.out | refine below_set ?_ GE162.out) | exact HB.out))); (case side2 => exact HC161_1.out); rintro e w28 ⟨rfl, hb⟩; refine ⟨_, rfl, ?_⟩; have n0_ := Aside0.mk (blk_below (g := gb159) (o := .cells #[.int .i64 a0_0, .slice A0_1 l0_1.length c0_1, .slice (some ad161) l0_2.length c0_2] 25 (0, 0)) (by (with_reducible repeat (first | refine blk_drewN ?_ _ | refine blk_drew ?_ | refine blk_alloc ?_ _)); refine blk_far ?_ NB159_162.out _; (with_reducible repeat (first | refine blk_drewN ?_ _ | refine blk_drew ?_ | refine blk_alloc ?_ _)); refine blk_far ?_ NB159_162.out _; (with_reducible repeat (first | refine blk_drewN ?_ _ | refine blk_drew ?_ | refine blk_alloc ?_ _)); exact BK159.out) hb); have n1_ := Aside0.mk (blk_below (g := gb162) (o := .cells #[.bool ((rd_T92 l0_2 x43_3).f0), .slice A161_1 ((rd_T92 l0_2 x43_3).f1).length c161_1] 92 (0, 0)) (by (with_reducible repeat (first | refine blk_drewN ?_ _ | refine blk_drew ?_ | refine blk_alloc ?_ _)); refine blk_put (cs := #[.bool ((rd_T92 l0_2 x43_3).f0), .slice none 0 0]) ?_ 1 _ rfl; (with_reducible repeat (first | refine blk_drewN ?_ _ | refine blk_drew ?_ | refine blk_alloc ?_ _)); refine blk_put (cs := #[.bool false, .slice none 0 0]) ?_ 0 _ rfl; (with_reducible repeat (first | refine blk_drewN ?_ _ | refine blk_drew ?_ | refine blk_alloc ?_ _)); exact BK162.out) hb); have n2_ := Aside0.mk (below_step (by repeat (first | (with_reducible first | exact HB.out | apply below_alloc | apply pw_below_drewN | apply below_drew1 | refine below_set ?_ GE159.out | refine below_set ?_ GE162.out) | exact HB.out)) hb); clear BK159; clear BK162; clear HB; have BK159 := n0_; have BK162 := n1_; have HB := n2_; clear n0_ n1_ n2_; (try clear hb); (try clear hb2); (try clear hk); (try clear hi)))
              go_ret
              exact ⟨by first | rfl | (simp [errW_none, errW_some] <;> rfl) | (simp [*, errW_none, errW_some] <;> rfl), by repeat (first | (with_reducible first | exact HB.out | apply below_alloc | apply pw_below_drewN | apply below_drew1 | refine below_set ?_ GE159.out | refine below_set ?_ GE162.out) | exact HB.out)⟩
            ·rw [if_neg c18] at H
             exact absurd H (by simp)
           ·rw [if_neg c17] at H
            exact absurd H (by simp)
          ·rw [if_neg c16] at H
           have c16b0 : decide (x43_3 < (l0_2.length : Int)) = false := decide_eq_false c16
           clear c16
           obtain rfl := Option.some.inj H
           go_wp2
           go_ret
           exact ⟨by first | rfl | (simp [errW_none, errW_some] <;> rfl) | (simp [*, errW_none, errW_some] <;> rfl), by repeat (first | (with_reducible first | exact HB.out | apply below_alloc | apply pw_below_drewN | apply below_drew1 | refine below_set ?_ GE159.out) | exact HB.out)⟩
    ·rw [if_neg c8] at H
     have c8b0 : ((l0_1.length : Int) == (l0_2.length : Int)) = false := beq_eq_false_iff_ne.mpr c8
     have c8b1 : ((l0_1.length : Int) != (l0_2.length : Int)) = true := bne_iff_ne.mpr c8
     have c8b2 : (l0_1.length == l0_2.length) = false := by first | simpa using c8 | (simp at c8 ⊢; omega)
     obtain rfl := Option.some.inj H
     have hcz29_0 : wc.cell? ⟨gb159, 0, none⟩ = some (.int .i64 a0_0) := (blk_cell BK159.out 0).trans rfl
     have hcz29_1 : wc.cell? ⟨gb159, 1, none⟩ = some (.slice A0_1 l0_1.length c0_1) := (blk_cell BK159.out 1).trans rfl
     have hcz29_2 : wc.cell? ⟨gb159, 2, none⟩ = some (.slice A0_2 l0_2.length c0_2) := (blk_cell BK159.out 2).trans rfl
     have hfz29_0 := blk_frozen BK159.out 0
     have hfz29_1 := blk_frozen BK159.out 1
     have hfz29_2 := blk_frozen BK159.out 2
     go_wp2
     go_ret
     exact ⟨by first | rfl | (simp [errW_none, errW_some] <;> rfl) | (simp [*, errW_none, errW_some] <;> rfl), by repeat (first | (with_reducible first | exact HB.out | apply below_alloc | apply pw_below_drewN | apply below_drew1 | refine below_set ?_ GE159.out) | exact HB.out)⟩
end Go.Proofs.YtadepdeckapgcaaDoor.PRp
end

section
namespace Go.Proofs.YtadepdeckapgcaaDoor.Rc
open Go.RowKit Go.Proofs.YtadepdeckapgcaaDoorW.PrintWords Go.Proofs.YtadepdeckapgcaaDoorW.PrintLast Go.Proofs.YtadepdeckapgcaaDoorW.PrintMore Go.Proofs.YtadepdeckapgcaaDoor.PRp Go.Proofs.YtadepdeckapgcaaDoor.Orc
set_option linter.unusedSimpArgs false
set_option linter.unusedVariables false
abbrev NShare := S108
abbrev NTerm := S96
abbrev NNode := S92
def MX : Nat := 9223372036854775807
theorem drop_cons' {α : Type} (d : α) (l : List α) (k : Nat) (h : k < l.length) : l.drop k = l.getD k d :: l.drop (k + 1) := by
  rw [List.drop_eq_getElem_cons h]; congr 1; simp [h]
theorem wrap_succ (i : Nat) (n : Nat) (h : i < n) (hn : n ≤ MX) : wrap64 ((i : Int) + 1) = ((i + 1 : Nat) : Int) := by unfold wrap64; unfold MX at hn; omega
theorem wrap_pred (i : Nat) (n : Nat) (h : i < n) (hn : n ≤ MX) (h0 : 0 < i) : wrap64 ((i : Int) - 1) = ((i - 1 : Nat) : Int) := by unfold wrap64; unfold MX at hn; omega
def unitsB (n : Int) : Bool := decide (1 ≤ n ∧ n ≤ 1000)
def termL : Int → Int → List NShare → Int
  | _, e, [] => e
  | last, e, s :: r => if s.f0 ≤ last ∨ 64 ≤ s.f0 then 2 else termL s.f0 (if unitsB s.f1 then e else 1) r
theorem termL_cons (last e : Int) (s : NShare) (r : List NShare) : termL last e (s :: r) = if s.f0 ≤ last ∨ 64 ≤ s.f0 then 2 else termL s.f0 (if unitsB s.f1 then e else 1) r := rfl
def termC (m : NTerm) : Int := if unitsB m.f0 then termL (-1) 0 m.f1 else 1
def termsC : List NTerm → Int
  | [] => 0
  | m :: r => if termC m = 0 then termsC r else termC m
theorem termsC_cons (m : NTerm) (r : List NTerm) : termsC (m :: r) = if termC m = 0 then termsC r else termC m := rfl
def waysC : List (List NTerm) → Int
  | [] => 0
  | w :: r => if 256 < w.length then 4 else if termsC w = 0 then waysC r else termsC w
theorem waysC_cons (w : List NTerm) (r : List (List NTerm)) : waysC (w :: r) = if 256 < w.length then 4 else if termsC w = 0 then waysC r else termsC w := rfl
def nodeC (x : NNode) : Int := if x.f0 then (if 4 < x.f1.length then 4 else waysC x.f1) else 2
def nodesC : List NNode → Int
  | [] => 0
  | x :: r => if nodeC x = 0 then nodesC r else nodeC x
theorem nodesC_cons (x : NNode) (r : List NNode) : nodesC (x :: r) = if nodeC x = 0 then nodesC r else nodeC x := rfl
def deadC : Int → List Int → Bool
  | _, [] => true
  | last, t :: r => if t ≤ last ∨ 64 ≤ t then false else deadC t r
theorem deadC_cons (last t : Int) (r : List Int) : deadC last (t :: r) = if t ≤ last ∨ 64 ≤ t then false else deadC t r := rfl
def chkR (time : Int) (d : List Int) (n : List NNode) : Int :=
  if time < 0 ∨ 1073741824 < time then 1 else if d.length ≠ n.length then 2 else if deadC (-1) d then nodesC n else 2
theorem units_f (n : Int) : report_units.f n = some (unitsB n) := by
  unfold report_units.f unitsB
  by_cases h : n ≥ 1
  · rw [if_pos h]; congr 1; rw [decide_eq_decide]; omega
  · rw [if_neg h, decide_eq_false (by omega)]
theorem ev_term_l0 (l : List NShare) (hl : l.length ≤ MX) : ∀ (d i : Nat) (last e : Int), i + d = l.length → Ev (fun k => report_term.l0 k last e l (l.length : Int) i) (termL last e (l.drop i)) := by
  intro d
  induction d with
  | zero =>
    intro i last e hi
    rw [List.drop_of_length_le (by omega)]
    exact Ev.step (f := fun _ => some e) (fun k => by simp only [report_term.l0]; rw [if_neg (by omega)]) (Ev.now _)
  | succ d ih =>
    intro i last e hi
    rw [drop_cons' z108 l i (by omega), termL_cons]
    have hw := wrap_succ i l.length (by omega) hl
    have hrd : rd_T108 l (i : Int) = l.getD i z108 := rfl
    have ih' := fun la e => ih (i + 1) la e (by omega)
    generalize hs : l.getD i z108 = s at *
    by_cases h1 : s.f0 ≤ last
    · rw [if_pos (.inl h1)]
      refine Ev.step (f := fun k => report_term.j1 k e l (l.length : Int) i true s.f0 s.f1) (fun k => by simp only [report_term.l0]; rw [if_pos (by omega), if_pos (by omega), if_pos (by omega), hrd, if_pos h1]) ?_
      exact Ev.step (f := fun _ => some 2) (fun k => by simp only [report_term.j1]; rfl) (Ev.now _)
    · refine Ev.step (f := fun k => report_term.j1 k e l (l.length : Int) i (decide (s.f0 ≥ 64)) s.f0 s.f1) (fun k => by simp only [report_term.l0]; rw [if_pos (by omega), if_pos (by omega), if_pos (by omega), hrd, if_neg h1]) ?_
      by_cases h2 : s.f0 ≥ 64
      · rw [if_pos (.inr h2), decide_eq_true h2]
        exact Ev.step (f := fun _ => some 2) (fun k => by simp only [report_term.j1]; rfl) (Ev.now _)
      · rw [if_neg (by omega), decide_eq_false h2]
        cases hu : unitsB s.f1
        · exact Ev.step (f := fun k => report_term.l0 k s.f0 1 l (l.length : Int) ((i + 1 : Nat) : Int)) (fun k => by simp only [report_term.j1, units_f, hu, hw]; simp) (ih' _ _)
        · exact Ev.step (f := fun k => report_term.l0 k s.f0 e l (l.length : Int) ((i + 1 : Nat) : Int)) (fun k => by simp only [report_term.j1, units_f, hu, hw]; simp) (ih' _ _)
theorem ev_term (m : NTerm) (hl : m.f1.length ≤ MX) : Ev (fun k => report_term.f k m.f0 m.f1) (termC m) := by
  unfold report_term.f termC
  rw [units_f]
  cases hu : unitsB m.f0
  · exact Ev.congr (f := fun _ => some 1) (fun k => by simp) (Ev.now _)
  · exact Ev.congr (f := fun k => report_term.l0 k (-1) 0 m.f1 (m.f1.length : Int) 0) (fun k => by simp) (ev_term_l0 m.f1 hl m.f1.length 0 (-1) 0 (by omega))
theorem ev_node_l1 (ws : List (List NTerm)) (n a : Int) (w : List NTerm) (hw : w.length ≤ MX) (hm : ∀ m ∈ w, m.f1.length ≤ MX) (r : Int) : ∀ (d i : Nat), i + d = w.length →
    (termsC (w.drop i) ≠ 0 → r = termsC (w.drop i)) → (termsC (w.drop i) = 0 → Ev (fun k => report_node.l0 k ws n (wrap64 (a + 1))) r) →
    Ev (fun k => report_node.l1 k ws n a w (w.length : Int) i) r := by
  intro d
  induction d with
  | zero =>
    intro i hi h1 h2
    rw [List.drop_of_length_le (by omega)] at h1 h2
    exact Ev.step (f := fun k => report_node.l0 k ws n (wrap64 (a + 1))) (fun k => by simp only [report_node.l1]; rw [if_neg (by omega)]) (h2 rfl)
  | succ d ih =>
    intro i hi h1 h2
    have hdr := drop_cons' z96 w i (by omega)
    rw [hdr, termsC_cons] at h1 h2
    have hwr := wrap_succ i w.length (by omega) hw
    have hrd : rd_T96 w (i : Int) = w.getD i z96 := rfl
    have hmem : w.getD i z96 ∈ w := by
      have : w.getD i z96 = w[i] := by simp [show i < w.length by omega]
      rw [this]; exact List.getElem_mem _
    have hme := ev_term _ (hm _ hmem)
    have ih' := ih (i + 1) (by omega)
    generalize w.getD i z96 = m at *
    by_cases ht : termC m = 0
    · rw [if_pos ht] at h1 h2
      rw [ht] at hme
      refine Ev.step (f := fun k => (report_term.f k m.f0 m.f1).bind fun t => if t = 0 then report_node.l1 k ws n a w (w.length : Int) ((i + 1 : Nat) : Int) else some t) (fun k => by simp only [report_node.l1]; rw [if_pos (by omega), if_pos (by omega), if_pos (by omega), hrd, hwr]) ?_
      refine Ev.bind hme ?_
      exact Ev.congr (f := fun k => report_node.l1 k ws n a w (w.length : Int) ((i + 1 : Nat) : Int)) (fun k => by simp) (ih' h1 h2)
    · rw [if_neg ht] at h1 h2
      refine Ev.step (f := fun k => (report_term.f k m.f0 m.f1).bind fun t => if t = 0 then report_node.l1 k ws n a w (w.length : Int) ((i + 1 : Nat) : Int) else some t) (fun k => by simp only [report_node.l1]; rw [if_pos (by omega), if_pos (by omega), if_pos (by omega), hrd, hwr]) ?_
      refine Ev.bind hme ?_
      rw [h1 ht]
      exact Ev.congr (f := fun _ => some (termC m)) (fun k => by simp [ht]) (Ev.now _)
theorem getD_mem {α : Type} (d : α) (l : List α) (i : Nat) (h : i < l.length) : l.getD i d ∈ l := by
  have : l.getD i d = l[i] := by simp [h]
  rw [this]; exact List.getElem_mem _
def Bw (w : List NTerm) : Prop := w.length ≤ MX ∧ ∀ m ∈ w, m.f1.length ≤ MX
def Bws (ws : List (List NTerm)) : Prop := ws.length ≤ MX ∧ ∀ w ∈ ws, Bw w
def Bns (n : List NNode) : Prop := n.length ≤ MX ∧ ∀ x ∈ n, Bws x.f1
theorem ev_node_l0 (ws : List (List NTerm)) (hb : Bws ws) : ∀ (d i : Nat), i + d = ws.length → Ev (fun k => report_node.l0 k ws (ws.length : Int) i) (waysC (ws.drop i)) := by
  intro d
  induction d with
  | zero =>
    intro i hi
    rw [List.drop_of_length_le (by omega)]
    exact Ev.step (f := fun _ => some 0) (fun k => by simp only [report_node.l0]; rw [if_neg (by omega)]) (Ev.now _)
  | succ d ih =>
    intro i hi
    rw [drop_cons' [] ws i (by omega), waysC_cons]
    have hwr := wrap_succ i ws.length (by omega) hb.1
    have hrd : rd_L7 ws (i : Int) = ws.getD i [] := rfl
    have hB := hb.2 _ (getD_mem [] ws i (by omega))
    have ih' := ih (i + 1) (by omega)
    generalize ws.getD i [] = w at *
    by_cases h : 256 < w.length
    · rw [if_pos h]
      exact Ev.step (f := fun _ => some 4) (fun k => by simp only [report_node.l0]; rw [if_pos (by omega), if_pos (by omega), if_pos (by omega), hrd, if_pos (by omega)]) (Ev.now _)
    · rw [if_neg h]
      refine Ev.step (f := fun k => report_node.l1 k ws (ws.length : Int) i w (w.length : Int) 0) (fun k => by simp only [report_node.l0]; rw [if_pos (by omega), if_pos (by omega), if_pos (by omega), hrd, if_neg (by omega)]) ?_
      refine ev_node_l1 ws _ i w hB.1 hB.2 _ w.length 0 (by omega) ?_ ?_
      · intro q; rw [List.drop_zero] at *; rw [if_neg q]
      · intro q; rw [List.drop_zero] at q; rw [if_pos q, hwr]; exact ih'
theorem ev_node (x : NNode) (hb : Bws x.f1) : Ev (fun k => report_node.f k x.f0 x.f1) (nodeC x) := by
  unfold report_node.f nodeC
  cases x.f0
  · exact Ev.congr (f := fun _ => some 2) (fun k => by simp) (Ev.now _)
  · by_cases h : 4 < x.f1.length
    · exact Ev.congr (f := fun _ => some 4) (fun k => by rw [if_pos rfl, if_pos (by omega)]) (by rw [if_pos rfl, if_pos h]; exact Ev.now _)
    · refine Ev.congr (f := fun k => report_node.l0 k x.f1 (x.f1.length : Int) 0) (fun k => by rw [if_pos rfl, if_neg (by omega)]) ?_
      rw [if_pos rfl, if_neg h]
      exact ev_node_l0 x.f1 hb x.f1.length 0 (by omega)
theorem ev_chk_l1 (n : List NNode) (hb : Bns n) : ∀ (d i : Nat), i + d = n.length → Ev (fun k => report_Check.l1 k n (n.length : Int) i) (nodesC (n.drop i)) := by
  intro d
  induction d with
  | zero =>
    intro i hi
    rw [List.drop_of_length_le (by omega)]
    exact Ev.step (f := fun _ => some 0) (fun k => by simp only [report_Check.l1]; rw [if_neg (by omega)]) (Ev.now _)
  | succ d ih =>
    intro i hi
    rw [drop_cons' z92 n i (by omega), nodesC_cons]
    have hwr := wrap_succ i n.length (by omega) hb.1
    have hrd : rd_T92 n (i : Int) = n.getD i z92 := rfl
    have hB := ev_node _ (hb.2 _ (getD_mem z92 n i (by omega)))
    have ih' := ih (i + 1) (by omega)
    generalize n.getD i z92 = x at *
    refine Ev.step (f := fun k => (report_node.f k x.f0 x.f1).bind fun t => if t = 0 then report_Check.l1 k n (n.length : Int) ((i + 1 : Nat) : Int) else some t) (fun k => by simp only [report_Check.l1]; rw [if_pos (by omega), if_pos (by omega), if_pos (by omega), hrd, hwr]) ?_
    refine Ev.bind hB ?_
    by_cases h : nodeC x = 0
    · exact Ev.congr (f := fun k => report_Check.l1 k n (n.length : Int) ((i + 1 : Nat) : Int)) (fun k => by simp [h]) (by rw [if_pos h]; exact ih')
    · exact Ev.congr (f := fun _ => some (nodeC x)) (fun k => by simp [h]) (by rw [if_neg h]; exact Ev.now _)
theorem ev_chk_l0 (time : Int) (dd : List Int) (hd : dd.length ≤ MX) (n : List NNode) (hb : Bns n) : ∀ (d i : Nat) (last : Int), i + d = dd.length → Ev (fun k => report_Check.l0 k last dd (dd.length : Int) i time dd n) (if deadC last (dd.drop i) then nodesC n else 2) := by
  intro d
  induction d with
  | zero =>
    intro i last hi
    rw [List.drop_of_length_le (by omega)]
    refine Ev.step (f := fun k => report_Check.l1 k n (n.length : Int) 0) (fun k => by simp only [report_Check.l0]; rw [if_neg (by omega)]) ?_
    exact ev_chk_l1 n hb n.length 0 (by omega)
  | succ d ih =>
    intro i last hi
    rw [drop_cons' 0 dd i (by omega), deadC_cons]
    have hwr := wrap_succ i dd.length (by omega) hd
    have hrd : rd dd (i : Int) = dd.getD i 0 := rfl
    have ih' := fun la => ih (i + 1) la (by omega)
    generalize dd.getD i 0 = t at *
    by_cases h1 : t ≤ last
    · rw [if_pos (show t ≤ last ∨ 64 ≤ t from .inl h1)]
      exact Ev.step (f := fun _ => some 2) (fun k => by simp only [report_Check.l0]; rw [if_pos (by omega), if_pos (by omega), if_pos (by omega), hrd, if_pos h1]) (Ev.now _)
    · by_cases h2 : t ≥ 64
      · rw [if_pos (show t ≤ last ∨ 64 ≤ t from .inr h2)]
        exact Ev.step (f := fun _ => some 2) (fun k => by simp only [report_Check.l0]; rw [if_pos (by omega), if_pos (by omega), if_pos (by omega), hrd, if_neg h1, if_pos h2]) (Ev.now _)
      · rw [if_neg (show ¬ (t ≤ last ∨ 64 ≤ t) by omega)]
        exact Ev.step (f := fun k => report_Check.l0 k t dd (dd.length : Int) ((i + 1 : Nat) : Int) time dd n) (fun k => by simp only [report_Check.l0]; rw [if_pos (by omega), if_pos (by omega), if_pos (by omega), hrd, if_neg h1, if_neg h2, hwr]) (ih' _)
theorem ev_chk (time : Int) (dd : List Int) (hd : dd.length ≤ MX) (n : List NNode) (hb : Bns n) : Ev (fun k => report_Check.f k time dd n) (chkR time dd n) := by
  unfold report_Check.f chkR
  by_cases h0 : time < 0
  · rw [if_pos (.inl h0)]
    refine Ev.congr (f := fun k => report_Check.j0 k true time dd n) (fun k => by rw [if_pos h0]) ?_
    exact Ev.step (f := fun _ => some 1) (fun k => by simp only [report_Check.j0]; rfl) (Ev.now _)
  · refine Ev.congr (f := fun k => report_Check.j0 k (decide (time > 1073741824)) time dd n) (fun k => by rw [if_neg h0]) ?_
    by_cases h1 : time > 1073741824
    · rw [if_pos (.inr h1), decide_eq_true h1]
      exact Ev.step (f := fun _ => some 1) (fun k => by simp only [report_Check.j0]; rfl) (Ev.now _)
    · rw [if_neg (by omega), decide_eq_false h1]
      by_cases h2 : dd.length = n.length
      · rw [if_neg (by omega)]
        exact Ev.step (f := fun k => report_Check.l0 k (-1) dd (dd.length : Int) 0 time dd n) (fun k => by simp only [report_Check.j0]; rw [if_neg (by simp), if_pos (by omega)]) (ev_chk_l0 time dd hd n hb dd.length 0 (-1) (by omega))
      · rw [if_pos h2]
        exact Ev.step (f := fun _ => some 2) (fun k => by simp only [report_Check.j0]; rw [if_neg (by simp), if_neg (by omega)]) (Ev.now _)
end Go.Proofs.YtadepdeckapgcaaDoor.Rc
end

section
namespace Go.Proofs.YtadepdeckapgcaaDoor.PRp
open Go.RowKit Go.Proofs.YtadepdeckapgcaaDoor.Orc Go.Proofs.YtadepdeckapgcaaDoorW.PrintWords Go.Proofs.YtadepdeckapgcaaDoorW.PrintLast Go.Proofs.YtadepdeckapgcaaDoorW.PrintMore
attribute [local go_sem] max2_int min2_int max_two min_two max_three min_three max_four min_four
set_option linter.unusedVariables false
set_option linter.unusedSimpArgs false
def logjamref36_units.f (a0 : Int) : Option (Bool) := if a0 > 0 then (some (decide (a0 ≤ 1000))) else (some false)
set_option maxHeartbeats 8000000 in
set_option maxRecDepth 100000 in
theorem logjamref36_units.calls (a0 : Int) (r : Bool) (w : World) (h : logjamref36_units.f a0 = some r) :
  Calls Tryd.prog 119 #[.int .i64 a0] w fun e w' => e = .returned (.bool r) ∧ Drawn0 w w' := by
 have H : (if a0 > 0 then (some (decide (a0 ≤ 1000))) else (some false)) = some r := h
 clear h
 by_cases c2 : a0 > 0
 ·rw [if_pos c2] at H
  have c2b0 : decide (0 < a0) = true := decide_eq_true c2
  clear c2
  obtain rfl := Option.some.inj H
  go_enter Tryd.func119, Tryd.ntmps119
  go_wp2
  go_ret
  exact ⟨by first | rfl | (simp; done) | (simp only [emptyNe_, emptyEq_]; done) | (simp [*]; done), by repeat (first | exact Drawn0.refl _ | apply Drawn0.step)⟩
 ·rw [if_neg c2] at H
  have c2b0 : decide (0 < a0) = false := decide_eq_false c2
  clear c2
  obtain rfl := Option.some.inj H
  go_enter Tryd.func119, Tryd.ntmps119
  go_wp2
  go_ret
  exact ⟨by first | rfl | (simp; done) | (simp only [emptyNe_, emptyEq_]; done) | (simp [*]; done), by repeat (first | exact Drawn0.refl _ | apply Drawn0.step)⟩
mutual
def logjamref36_term.l0 : Nat → Int → Int → List (S108) → Option (Int)
 | 0, _, _, _ => none
 | k + 1, x3, x226000, x226001 => if x3 < (x226001.length : Int) then (if 0 ≤ x3 then (if ((rd_T108 x226001 x3).f0) < 0 then (some 2) else (if ((rd_T108 x226001 x3).f0) > 63 then (some 2) else (if x3 > 0 then (if 0 ≤ (wrap64 (x3 - 1)) then (if (wrap64 (x3 - 1)) < (x226001.length : Int) then (if ((rd_T108 x226001 x3).f0) ≤ ((rd_T108 x226001 (wrap64 (x3 - 1))).f0) then (some 2) else (logjamref36_term.l0 k (wrap64 (x3 + 1)) x226000 x226001)) else (none)) else (none)) else (logjamref36_term.l0 k (wrap64 (x3 + 1)) x226000 x226001)))) else (none)) else (logjamref36_term.l1 k 0 x226000 x226001)
def logjamref36_term.l1 : Nat → Int → Int → List (S108) → Option (Int)
 | 0, _, _, _ => none
 | k + 1, x5, x226000, x226001 => if x5 < (x226001.length : Int) then (if 0 ≤ x5 then ((logjamref36_units.f ((rd_T108 x226001 x5).f1)).bind fun t230 => (if t230 = true then (logjamref36_term.l1 k (wrap64 (x5 + 1)) x226000 x226001) else (some 1))) else (none)) else (some 0)
end
def logjamref36_term.f (k : Nat) (a0_0 : Int) (l0_1 : List (S108)) : Option (Int) := (logjamref36_units.f a0_0).bind fun t226 => (if t226 = true then (logjamref36_term.l0 k 0 a0_0 l0_1) else (some 1))
set_option maxHeartbeats 8000000 in
set_option maxRecDepth 100000 in
theorem logjamref36_term.calls (k : Nat) (a0_0 : Int) (A0_1 : Option Addr) (c0_1 : Nat) (l0_1 : List (S108)) (r : Int) (w : World) (hr0_1 : Kd.C k108 w A0_1 l0_1.length l0_1) (hc0_1 : l0_1.length ≤ c0_1) (h : logjamref36_term.f k a0_0 l0_1 = some r) :
  Calls Tryd.prog 80 #[.agg #[.int .i64 a0_0, .slice A0_1 l0_1.length c0_1]] w fun e w' => e = .returned (.int .i64 r) ∧ Below w.heap.size w w' := by
 have hu96 := Tryd.underlying96
 have HR0_1 := Aside0.mk hr0_1
 have HC0_1 := Aside0.mk hc0_1
 clear hr0_1 hc0_1
 have HB := Aside0.mk (Below.refl w.heap.size w)
 have H : ((logjamref36_units.f a0_0).bind fun t226 => (if t226 = true then (logjamref36_term.l0 k 0 a0_0 l0_1) else (some 1))) = some r := h
 clear h
 replace H := Option.bind_eq_some_iff.mp H
 obtain ⟨t226, A20, H⟩ := H
 replace H : (if t226 = true then (logjamref36_term.l0 k 0 a0_0 l0_1) else (some 1)) = some r := H
 have A2 := Aside0.mk A20
 clear A20
 by_cases c3 : t226 = true
 ·subst c3
  have H1 : (logjamref36_term.l0 k 0 a0_0 l0_1) = some r := by rw [if_pos rfl] at H; exact H
  clear H
  have H := H1
  clear H1
  have H' := Aside0.mk H
  clear H
  go_enter Tryd.func80, Tryd.ntmps80
  go_wp2_with (first | ((with_reducible refine gate_dst (N := 1) rfl ?_); refine box_event ?hg (N := 1) ?hd (cs := #[.int .i64 a0_0, .slice A0_1 l0_1.length c0_1]) (t := 96) ?hr ?_; (case hd => rfl); (case hg => rfl); (case hr => first | (go_simp; done) | (go_simp; rfl)); intro gb225 hg w4 hbox hb; have n0_ := Aside0.mk (below_step (by repeat (first | (with_reducible first | exact HB.out | apply below_alloc | apply pw_below_drewN | apply below_drew1) | exact HB.out)) hb); have n1_ := Aside0.mk (hbox); have n2_ := Aside0.mk ((by rw [hg]; exact (below_size (by repeat (first | (with_reducible first | exact HB.out | apply below_alloc | apply pw_below_drewN | apply below_drew1) | exact HB.out))) : w.heap.size ≤ gb225)); have n3_ := Aside0.mk ((by rw [hg]; exact (below_size (by repeat (first | (with_reducible first | exact HB.out | apply below_alloc | apply pw_below_drewN | apply below_drew1) | exact HB.out))) : w.heap.size ≤ gb225)); clear HB; have HB := n0_; have BK225 := n1_; have GW225 := n2_; have GE225 := n3_; clear n0_ n1_ n2_ n3_; clear hb hbox hg; have hcz5_0 : w4.cell? ⟨gb225, 0, none⟩ = some (.int .i64 a0_0) := (blk_cell BK225.out 0).trans rfl; have hcz5_1 : w4.cell? ⟨gb225, 1, none⟩ = some (.slice A0_1 l0_1.length c0_1) := (blk_cell BK225.out 1).trans rfl; have hfz5_0 := blk_frozen BK225.out 0; have hfz5_1 := blk_frozen BK225.out 1) | ((with_reducible refine gate_callee (f := 119) rfl ?_); refine goesL_ (some 8) rfl rfl Tryd.func119 (by kernel_rfl) rfl #[.int .i64 a0_0] rfl (by (try simp only [List.map_toArray, List.map_cons, List.map_nil]); first | done | rfl | (simp only [List.length_drop, List.length_take]; rfl)) ?_; (with_reducible refine (logjamref36_units.calls a0_0 true _ A2.out).mono ?_); rintro e w' ⟨rfl, ⟨nd, rfl⟩⟩; refine ⟨_, rfl, ?_⟩))
  go_loopg [3] k (fun kq v3 w' => ∃ (x3_1 : Int), v3 = .int .i64 x3_1 ∧ Aside0 (logjamref36_term.l0 kq x3_1 a0_0 l0_1 = some r) ∧ Aside0 (kq ≤ k) ∧ Aside0 (w'.heap[gb225]? = some (.cells #[.int .i64 a0_0, (.slice A0_1 l0_1.length c0_1)] 96 (0, 0))) ∧ Aside0 (Below w.heap.size w w'))
  case atStart => exact ⟨(0), (by first | rfl | (simp; done) | (simp only [emptyNe_, emptyEq_]; done) | (simp [*]; done)), H', ⟨Nat.le_refl _⟩, ⟨by (with_reducible repeat (first | refine blk_drewN ?_ _ | refine blk_drew ?_ | refine blk_alloc ?_ _)); exact BK225.out⟩, ⟨by repeat (first | (with_reducible first | exact HB.out | apply below_alloc | apply pw_below_drewN | apply below_drew1 | refine below_set ?_ GE225.out) | exact HB.out)⟩⟩
  case round =>
   clear H'; try clear c1; try clear p2; try clear c3; try clear hcz5_0; try clear hcz5_1; try clear hfz5_0; try clear hfz5_1
   obtain ⟨x3_1, rfl, HA, HK1, BK225, HB⟩ := hrel
   cases gk with
   | zero => exact absurd HA.out (by simp [logjamref36_term.l0])
   | succ k1 =>
    have H := HA.out
    clear HA
    simp only [logjamref36_term.l0] at H
    by_cases c6 : x3_1 < (l0_1.length : Int)
    ·rw [if_pos c6] at H
     have c6b0 : decide (x3_1 < (l0_1.length : Int)) = true := decide_eq_true c6
     clear c6
     by_cases c7 : 0 ≤ x3_1
     ·rw [if_pos c7] at H
      have c7b0 : decide (0 ≤ x3_1) = true := decide_eq_true c7
      clear c7
      by_cases c8 : ((rd_T108 l0_1 x3_1).f0) < 0
      ·rw [if_pos c8] at H
       have c8b0 : decide (((rd_T108 l0_1 x3_1).f0) < 0) = true := decide_eq_true c8
       clear c8
       obtain rfl := Option.some.inj H
       have hcz9_0 : wr.cell? ⟨gb225, 0, none⟩ = some (.int .i64 a0_0) := (blk_cell BK225.out 0).trans rfl
       have hcz9_1 : wr.cell? ⟨gb225, 1, none⟩ = some (.slice A0_1 l0_1.length c0_1) := (blk_cell BK225.out 1).trans rfl
       have hfz9_0 := blk_frozen BK225.out 0
       have hfz9_1 := blk_frozen BK225.out 1
       have p227 : 0 ≤ (x3_1 : Int) := of_decide_eq_true (by first | (with_reducible assumption) | assumption)
       have q227 : x3_1 < (l0_1.length : Int) := of_decide_eq_true (by first | (with_reducible assumption) | assumption)
       obtain ⟨ad227, e227, hx227_0, hx227_1⟩ := at_T108 HR0_1.out x3_1 p227 q227
       cases e227
       replace hx227_0 := (HB.out.cell (World.block_lt_of_cell? w _ hx227_0)).trans hx227_0
       replace hx227_1 := (HB.out.cell (World.block_lt_of_cell? w _ hx227_1)).trans hx227_1
       replace p227 := eq_true p227
       replace q227 := eq_true q227
       go_wp2
       go_ret
       exact ⟨by first | rfl | (simp [errW_none, errW_some] <;> rfl) | (simp [*, errW_none, errW_some] <;> rfl), by repeat (first | (with_reducible first | exact HB.out | apply below_alloc | apply pw_below_drewN | apply below_drew1 | refine below_set ?_ GE225.out) | exact HB.out)⟩
      ·rw [if_neg c8] at H
       have c8b0 : decide (((rd_T108 l0_1 x3_1).f0) < 0) = false := decide_eq_false c8
       clear c8
       by_cases c10 : ((rd_T108 l0_1 x3_1).f0) > 63
       ·rw [if_pos c10] at H
        have c10b0 : decide (63 < ((rd_T108 l0_1 x3_1).f0)) = true := decide_eq_true c10
        clear c10
        obtain rfl := Option.some.inj H
        have hcz11_0 : wr.cell? ⟨gb225, 0, none⟩ = some (.int .i64 a0_0) := (blk_cell BK225.out 0).trans rfl
        have hcz11_1 : wr.cell? ⟨gb225, 1, none⟩ = some (.slice A0_1 l0_1.length c0_1) := (blk_cell BK225.out 1).trans rfl
        have hfz11_0 := blk_frozen BK225.out 0
        have hfz11_1 := blk_frozen BK225.out 1
        have p227 : 0 ≤ (x3_1 : Int) := of_decide_eq_true (by first | (with_reducible assumption) | assumption)
        have q227 : x3_1 < (l0_1.length : Int) := of_decide_eq_true (by first | (with_reducible assumption) | assumption)
        obtain ⟨ad227, e227, hx227_0, hx227_1⟩ := at_T108 HR0_1.out x3_1 p227 q227
        cases e227
        replace hx227_0 := (HB.out.cell (World.block_lt_of_cell? w _ hx227_0)).trans hx227_0
        replace hx227_1 := (HB.out.cell (World.block_lt_of_cell? w _ hx227_1)).trans hx227_1
        replace p227 := eq_true p227
        replace q227 := eq_true q227
        go_wp2
        go_ret
        exact ⟨by first | rfl | (simp [errW_none, errW_some] <;> rfl) | (simp [*, errW_none, errW_some] <;> rfl), by repeat (first | (with_reducible first | exact HB.out | apply below_alloc | apply pw_below_drewN | apply below_drew1 | refine below_set ?_ GE225.out) | exact HB.out)⟩
       ·rw [if_neg c10] at H
        have c10b0 : decide (63 < ((rd_T108 l0_1 x3_1).f0)) = false := decide_eq_false c10
        clear c10
        by_cases c12 : x3_1 > 0
        ·rw [if_pos c12] at H
         have c12b0 : decide (0 < x3_1) = true := decide_eq_true c12
         clear c12
         obtain ⟨ji13, hji13⟩ : ∃ j_ : Int, (wrap64 (x3_1 - 1)) = j_ := ⟨_, rfl⟩
         replace H : (if 0 ≤ (ji13) then (if (ji13) < (l0_1.length : Int) then (if ((rd_T108 l0_1 x3_1).f0) ≤ ((rd_T108 l0_1 (ji13)).f0) then (some 2) else (logjamref36_term.l0 k1 (wrap64 (x3_1 + 1)) a0_0 l0_1)) else (none)) else (none)) = some r := by first | (rw [hji13] at H; exact H) | (simp only [hji13] at H ⊢; exact H)
         have hji13w : (IntKind.i64.wrap (x3_1 - 1)) = ji13 := (i64_w _).trans hji13
         by_cases c14 : 0 ≤ (ji13)
         ·rw [if_pos c14] at H
          have c14b0 : decide (0 ≤ (ji13)) = true := decide_eq_true c14
          clear c14
          by_cases c15 : (ji13) < (l0_1.length : Int)
          ·rw [if_pos c15] at H
           have c15b0 : decide ((ji13) < (l0_1.length : Int)) = true := decide_eq_true c15
           clear c15
           by_cases c16 : ((rd_T108 l0_1 x3_1).f0) ≤ ((rd_T108 l0_1 (ji13)).f0)
           ·rw [if_pos c16] at H
            have c16b0 : decide (((rd_T108 l0_1 x3_1).f0) ≤ ((rd_T108 l0_1 (ji13)).f0)) = true := decide_eq_true c16
            clear c16
            obtain rfl := Option.some.inj H
            have hcz17_0 : wr.cell? ⟨gb225, 0, none⟩ = some (.int .i64 a0_0) := (blk_cell BK225.out 0).trans rfl
            have hcz17_1 : wr.cell? ⟨gb225, 1, none⟩ = some (.slice A0_1 l0_1.length c0_1) := (blk_cell BK225.out 1).trans rfl
            have hfz17_0 := blk_frozen BK225.out 0
            have hfz17_1 := blk_frozen BK225.out 1
            have p227 : 0 ≤ (x3_1 : Int) := of_decide_eq_true (by first | (with_reducible assumption) | assumption)
            have q227 : x3_1 < (l0_1.length : Int) := of_decide_eq_true (by first | (with_reducible assumption) | assumption)
            obtain ⟨ad227, e227, hx227_0, hx227_1⟩ := at_T108 HR0_1.out x3_1 p227 q227
            cases e227
            replace hx227_0 := (HB.out.cell (World.block_lt_of_cell? w _ hx227_0)).trans hx227_0
            replace hx227_1 := (HB.out.cell (World.block_lt_of_cell? w _ hx227_1)).trans hx227_1
            replace p227 := eq_true p227
            replace q227 := eq_true q227
            have p228 : 0 ≤ ((ji13) : Int) := of_decide_eq_true (by first | (with_reducible assumption) | assumption)
            have q228 : (ji13) < (l0_1.length : Int) := of_decide_eq_true (by first | (with_reducible assumption) | assumption)
            obtain ⟨ad228, e228, hx228_0, hx228_1⟩ := at_T108 HR0_1.out (ji13) p228 q228
            obtain rfl : ad227 = ad228 := (by injection e228)
            replace hx228_0 := (HB.out.cell (World.block_lt_of_cell? w _ hx228_0)).trans hx228_0
            replace hx228_1 := (HB.out.cell (World.block_lt_of_cell? w _ hx228_1)).trans hx228_1
            replace p228 := eq_true p228
            replace q228 := eq_true q228
            go_wp2
            go_ret
            exact ⟨by first | rfl | (simp [errW_none, errW_some] <;> rfl) | (simp only [← hji13]; first | rfl | (simp [errW_none, errW_some] <;> rfl)) | (simp [*, errW_none, errW_some] <;> rfl), by repeat (first | (with_reducible first | exact HB.out | apply below_alloc | apply pw_below_drewN | apply below_drew1 | refine below_set ?_ GE225.out) | exact HB.out)⟩
           ·rw [if_neg c16] at H
            have c16b0 : decide (((rd_T108 l0_1 x3_1).f0) ≤ ((rd_T108 l0_1 (ji13)).f0)) = false := decide_eq_false c16
            clear c16
            have H' := Aside0.mk H
            clear H
            have hcz18_0 : wr.cell? ⟨gb225, 0, none⟩ = some (.int .i64 a0_0) := (blk_cell BK225.out 0).trans rfl
            have hcz18_1 : wr.cell? ⟨gb225, 1, none⟩ = some (.slice A0_1 l0_1.length c0_1) := (blk_cell BK225.out 1).trans rfl
            have hfz18_0 := blk_frozen BK225.out 0
            have hfz18_1 := blk_frozen BK225.out 1
            have p227 : 0 ≤ (x3_1 : Int) := of_decide_eq_true (by first | (with_reducible assumption) | assumption)
            have q227 : x3_1 < (l0_1.length : Int) := of_decide_eq_true (by first | (with_reducible assumption) | assumption)
            obtain ⟨ad227, e227, hx227_0, hx227_1⟩ := at_T108 HR0_1.out x3_1 p227 q227
            cases e227
            replace hx227_0 := (HB.out.cell (World.block_lt_of_cell? w _ hx227_0)).trans hx227_0
            replace hx227_1 := (HB.out.cell (World.block_lt_of_cell? w _ hx227_1)).trans hx227_1
            replace p227 := eq_true p227
            replace q227 := eq_true q227
            have p228 : 0 ≤ ((ji13) : Int) := of_decide_eq_true (by first | (with_reducible assumption) | assumption)
            have q228 : (ji13) < (l0_1.length : Int) := of_decide_eq_true (by first | (with_reducible assumption) | assumption)
            obtain ⟨ad228, e228, hx228_0, hx228_1⟩ := at_T108 HR0_1.out (ji13) p228 q228
            obtain rfl : ad227 = ad228 := (by injection e228)
            replace hx228_0 := (HB.out.cell (World.block_lt_of_cell? w _ hx228_0)).trans hx228_0
            replace hx228_1 := (HB.out.cell (World.block_lt_of_cell? w _ hx228_1)).trans hx228_1
            replace p228 := eq_true p228
            replace q228 := eq_true q228
            go_wp2
            go_roundg k1
            case measure => have := HK1.out; omega
            case rel => exact ⟨(wrap64 (x3_1 + 1)), (by first | rfl | (simp; done) | (simp only [emptyNe_, emptyEq_]; done) | (simp [*]; done)), H', ⟨by have := HK1.out; omega⟩, ⟨by (with_reducible repeat (first | refine blk_drewN ?_ _ | refine blk_drew ?_ | refine blk_alloc ?_ _)); exact BK225.out⟩, ⟨by repeat (first | (with_reducible first | exact HB.out | apply below_alloc | apply pw_below_drewN | apply below_drew1 | refine below_set ?_ GE225.out) | exact HB.out)⟩⟩
          ·rw [if_neg c15] at H
           exact absurd H (by simp)
         ·rw [if_neg c14] at H
          exact absurd H (by simp)
        ·rw [if_neg c12] at H
         have c12b0 : decide (0 < x3_1) = false := decide_eq_false c12
         clear c12
         have H' := Aside0.mk H
         clear H
         have hcz19_0 : wr.cell? ⟨gb225, 0, none⟩ = some (.int .i64 a0_0) := (blk_cell BK225.out 0).trans rfl
         have hcz19_1 : wr.cell? ⟨gb225, 1, none⟩ = some (.slice A0_1 l0_1.length c0_1) := (blk_cell BK225.out 1).trans rfl
         have hfz19_0 := blk_frozen BK225.out 0
         have hfz19_1 := blk_frozen BK225.out 1
         have p227 : 0 ≤ (x3_1 : Int) := of_decide_eq_true (by first | (with_reducible assumption) | assumption)
         have q227 : x3_1 < (l0_1.length : Int) := of_decide_eq_true (by first | (with_reducible assumption) | assumption)
         obtain ⟨ad227, e227, hx227_0, hx227_1⟩ := at_T108 HR0_1.out x3_1 p227 q227
         cases e227
         replace hx227_0 := (HB.out.cell (World.block_lt_of_cell? w _ hx227_0)).trans hx227_0
         replace hx227_1 := (HB.out.cell (World.block_lt_of_cell? w _ hx227_1)).trans hx227_1
         replace p227 := eq_true p227
         replace q227 := eq_true q227
         go_wp2
         go_roundg k1
         case measure => have := HK1.out; omega
         case rel => exact ⟨(wrap64 (x3_1 + 1)), (by first | rfl | (simp; done) | (simp only [emptyNe_, emptyEq_]; done) | (simp [*]; done)), H', ⟨by have := HK1.out; omega⟩, ⟨by (with_reducible repeat (first | refine blk_drewN ?_ _ | refine blk_drew ?_ | refine blk_alloc ?_ _)); exact BK225.out⟩, ⟨by repeat (first | (with_reducible first | exact HB.out | apply below_alloc | apply pw_below_drewN | apply below_drew1 | refine below_set ?_ GE225.out) | exact HB.out)⟩⟩
     ·rw [if_neg c7] at H
      exact absurd H (by simp)
    ·rw [if_neg c6] at H
     have c6b0 : decide (x3_1 < (l0_1.length : Int)) = false := decide_eq_false c6
     clear c6
     have H' := Aside0.mk H
     clear H
     have hcz20_0 : wr.cell? ⟨gb225, 0, none⟩ = some (.int .i64 a0_0) := (blk_cell BK225.out 0).trans rfl
     have hcz20_1 : wr.cell? ⟨gb225, 1, none⟩ = some (.slice A0_1 l0_1.length c0_1) := (blk_cell BK225.out 1).trans rfl
     have hfz20_0 := blk_frozen BK225.out 0
     have hfz20_1 := blk_frozen BK225.out 1
     go_wp2
     go_loopg [5] k1 (fun kq v5 w' => ∃ (x5_2 : Int), v5 = .int .i64 x5_2 ∧ Aside0 (logjamref36_term.l1 kq x5_2 a0_0 l0_1 = some r) ∧ Aside0 (kq ≤ k1) ∧ Aside0 (w'.heap[gb225]? = some (.cells #[.int .i64 a0_0, (.slice A0_1 l0_1.length c0_1)] 96 (0, 0))) ∧ Aside0 (Below w.heap.size w w'))
     case atStart => exact ⟨(0), (by first | rfl | (simp; done) | (simp only [emptyNe_, emptyEq_]; done) | (simp [*]; done)), H', ⟨Nat.le_refl _⟩, ⟨by (with_reducible repeat (first | refine blk_drewN ?_ _ | refine blk_drew ?_ | refine blk_alloc ?_ _)); exact BK225.out⟩, ⟨by repeat (first | (with_reducible first | exact HB.out | apply below_alloc | apply pw_below_drewN | apply below_drew1 | refine below_set ?_ GE225.out) | exact HB.out)⟩⟩
     case round =>
      clear H'; try clear c1; try clear p2; try clear q2; try clear hx2; try clear c3; try clear c6; try clear c6b0; try clear p6; try clear c7; try clear c7b0; try clear c8; try clear c8b0; try clear c10; try clear c10b0; try clear c11; try clear c12; try clear c12b0; try clear c14; try clear c14b0; try clear c15; try clear c15b0; try clear c16; try clear c16b0; try clear hcz11_0; try clear hcz11_1; try clear hcz17_0; try clear hcz17_1; try clear hcz18_0; try clear hcz18_1; try clear hcz19_0; try clear hcz19_1; try clear hcz20_0; try clear hcz20_1; try clear hcz5_0; try clear hcz5_1; try clear hcz9_0; try clear hcz9_1; try clear hfz11_0; try clear hfz11_1; try clear hfz17_0; try clear hfz17_1; try clear hfz18_0; try clear hfz18_1; try clear hfz19_0; try clear hfz19_1; try clear hfz20_0; try clear hfz20_1; try clear hfz5_0; try clear hfz5_1; try clear hfz9_0; try clear hfz9_1; try clear hx227_0; try clear hx227_1; try clear hx228_0; try clear hx228_1; try clear p2; try clear p227; try clear p228; try clear q227; try clear q228
      obtain ⟨x5_2, rfl, HA, HK2, BK225, HB⟩ := hrel
      cases gk with
      | zero => exact absurd HA.out (by simp [logjamref36_term.l1])
      | succ k2 =>
       have H := HA.out
       clear HA
       simp only [logjamref36_term.l1] at H
       by_cases c21 : x5_2 < (l0_1.length : Int)
       ·rw [if_pos c21] at H
        have c21b0 : decide (x5_2 < (l0_1.length : Int)) = true := decide_eq_true c21
        clear c21
        by_cases c22 : 0 ≤ x5_2
        ·rw [if_pos c22] at H
         have c22b0 : decide (0 ≤ x5_2) = true := decide_eq_true c22
         clear c22
         replace H := Option.bind_eq_some_iff.mp H
         obtain ⟨t230, A230, H⟩ := H
         replace H : (if t230 = true then (logjamref36_term.l1 k2 (wrap64 (x5_2 + 1)) a0_0 l0_1) else (some 1)) = some r := H
         have A23 := Aside0.mk A230
         clear A230
         by_cases c24 : t230 = true
         ·subst c24
          have H1 : (logjamref36_term.l1 k2 (wrap64 (x5_2 + 1)) a0_0 l0_1) = some r := by rw [if_pos rfl] at H; exact H
          clear H
          have H := H1
          clear H1
          have H' := Aside0.mk H
          clear H
          have hcz25_0 : wr.cell? ⟨gb225, 0, none⟩ = some (.int .i64 a0_0) := (blk_cell BK225.out 0).trans rfl
          have hcz25_1 : wr.cell? ⟨gb225, 1, none⟩ = some (.slice A0_1 l0_1.length c0_1) := (blk_cell BK225.out 1).trans rfl
          have hfz25_0 := blk_frozen BK225.out 0
          have hfz25_1 := blk_frozen BK225.out 1
          have p229 : 0 ≤ (x5_2 : Int) := of_decide_eq_true (by first | (with_reducible assumption) | assumption)
          have q229 : x5_2 < (l0_1.length : Int) := of_decide_eq_true (by first | (with_reducible assumption) | assumption)
          obtain ⟨ad229, e229, hx229_0, hx229_1⟩ := at_T108 HR0_1.out x5_2 p229 q229
          cases e229
          replace hx229_0 := (HB.out.cell (World.block_lt_of_cell? w _ hx229_0)).trans hx229_0
          replace hx229_1 := (HB.out.cell (World.block_lt_of_cell? w _ hx229_1)).trans hx229_1
          replace p229 := eq_true p229
          replace q229 := eq_true q229
          go_wp2_with (first | ((with_reducible refine gate_callee (f := 119) rfl ?_); refine goesL_ (some 57) rfl rfl Tryd.func119 (by kernel_rfl) rfl #[.int .i64 ((rd_T108 l0_1 x5_2).f1)] rfl (by (try simp only [List.map_toArray, List.map_cons, List.map_nil]); first | done | rfl | (simp only [List.length_drop, List.length_take]; rfl)) ?_; (with_reducible refine (logjamref36_units.calls ((rd_T108 l0_1 x5_2).f1) true _ A23.out).mono ?_); rintro e w' ⟨rfl, ⟨nd, rfl⟩⟩; refine ⟨_, rfl, ?_⟩))
          go_roundg k2
          case measure => have := HK1.out; have := HK2.out; omega
          case rel => exact ⟨(wrap64 (x5_2 + 1)), (by first | rfl | (simp; done) | (simp only [emptyNe_, emptyEq_]; done) | (simp [*]; done)), H', ⟨by have := HK1.out; have := HK2.out; omega⟩, ⟨by (with_reducible repeat (first | refine blk_drewN ?_ _ | refine blk_drew ?_ | refine blk_alloc ?_ _)); exact BK225.out⟩, ⟨by repeat (first | (with_reducible first | exact HB.out | apply below_alloc | apply pw_below_drewN | apply below_drew1 | refine below_set ?_ GE225.out) | exact HB.out)⟩⟩
         ·replace c24 := Bool.eq_false_iff.mpr c24
          subst c24
          have H1 : (some 1) = some r := by rw [if_neg (show ¬ (false = true) by decide)] at H; exact H
          clear H
          have H := H1
          clear H1
          obtain rfl := Option.some.inj H
          have hcz26_0 : wr.cell? ⟨gb225, 0, none⟩ = some (.int .i64 a0_0) := (blk_cell BK225.out 0).trans rfl
          have hcz26_1 : wr.cell? ⟨gb225, 1, none⟩ = some (.slice A0_1 l0_1.length c0_1) := (blk_cell BK225.out 1).trans rfl
          have hfz26_0 := blk_frozen BK225.out 0
          have hfz26_1 := blk_frozen BK225.out 1
          have p229 : 0 ≤ (x5_2 : Int) := of_decide_eq_true (by first | (with_reducible assumption) | assumption)
          have q229 : x5_2 < (l0_1.length : Int) := of_decide_eq_true (by first | (with_reducible assumption) | assumption)
          obtain ⟨ad229, e229, hx229_0, hx229_1⟩ := at_T108 HR0_1.out x5_2 p229 q229
          cases e229
          replace hx229_0 := (HB.out.cell (World.block_lt_of_cell? w _ hx229_0)).trans hx229_0
          replace hx229_1 := (HB.out.cell (World.block_lt_of_cell? w _ hx229_1)).trans hx229_1
          replace p229 := eq_true p229
          replace q229 := eq_true q229
          go_wp2_with (first | ((with_reducible refine gate_callee (f := 119) rfl ?_); refine goesL_ (some 57) rfl rfl Tryd.func119 (by kernel_rfl) rfl #[.int .i64 ((rd_T108 l0_1 x5_2).f1)] rfl (by (try simp only [List.map_toArray, List.map_cons, List.map_nil]); first | done | rfl | (simp only [List.length_drop, List.length_take]; rfl)) ?_; (with_reducible refine (logjamref36_units.calls ((rd_T108 l0_1 x5_2).f1) false _ A23.out).mono ?_); rintro e w' ⟨rfl, ⟨nd, rfl⟩⟩; refine ⟨_, rfl, ?_⟩))
          go_ret
          exact ⟨by first | rfl | (simp [errW_none, errW_some] <;> rfl) | (simp [*, errW_none, errW_some] <;> rfl), by repeat (first | (with_reducible first | exact HB.out | apply below_alloc | apply pw_below_drewN | apply below_drew1 | refine below_set ?_ GE225.out) | exact HB.out)⟩
        ·rw [if_neg c22] at H
         exact absurd H (by simp)
       ·rw [if_neg c21] at H
        have c21b0 : decide (x5_2 < (l0_1.length : Int)) = false := decide_eq_false c21
        clear c21
        obtain rfl := Option.some.inj H
        have hcz27_0 : wr.cell? ⟨gb225, 0, none⟩ = some (.int .i64 a0_0) := (blk_cell BK225.out 0).trans rfl
        have hcz27_1 : wr.cell? ⟨gb225, 1, none⟩ = some (.slice A0_1 l0_1.length c0_1) := (blk_cell BK225.out 1).trans rfl
        have hfz27_0 := blk_frozen BK225.out 0
        have hfz27_1 := blk_frozen BK225.out 1
        go_wp2
        go_ret
        exact ⟨by first | rfl | (simp [errW_none, errW_some] <;> rfl) | (simp [*, errW_none, errW_some] <;> rfl), by repeat (first | (with_reducible first | exact HB.out | apply below_alloc | apply pw_below_drewN | apply below_drew1 | refine below_set ?_ GE225.out) | exact HB.out)⟩
 ·replace c3 := Bool.eq_false_iff.mpr c3
  subst c3
  have H1 : (some 1) = some r := by rw [if_neg (show ¬ (false = true) by decide)] at H; exact H
  clear H
  have H := H1
  clear H1
  obtain rfl := Option.some.inj H
  go_enter Tryd.func80, Tryd.ntmps80
  go_wp2_with (first | ((with_reducible refine gate_dst (N := 1) rfl ?_); refine box_event ?hg (N := 1) ?hd (cs := #[.int .i64 a0_0, .slice A0_1 l0_1.length c0_1]) (t := 96) ?hr ?_; (case hd => rfl); (case hg => rfl); (case hr => first | (go_simp; done) | (go_simp; rfl)); intro gb225 hg w28 hbox hb; have n0_ := Aside0.mk (below_step (by repeat (first | (with_reducible first | exact HB.out | apply below_alloc | apply pw_below_drewN | apply below_drew1) | exact HB.out)) hb); have n1_ := Aside0.mk (hbox); have n2_ := Aside0.mk ((by rw [hg]; exact (below_size (by repeat (first | (with_reducible first | exact HB.out | apply below_alloc | apply pw_below_drewN | apply below_drew1) | exact HB.out))) : w.heap.size ≤ gb225)); have n3_ := Aside0.mk ((by rw [hg]; exact (below_size (by repeat (first | (with_reducible first | exact HB.out | apply below_alloc | apply pw_below_drewN | apply below_drew1) | exact HB.out))) : w.heap.size ≤ gb225)); clear HB; have HB := n0_; have BK225 := n1_; have GW225 := n2_; have GE225 := n3_; clear n0_ n1_ n2_ n3_; clear hb hbox hg; have hcz29_0 : w28.cell? ⟨gb225, 0, none⟩ = some (.int .i64 a0_0) := (blk_cell BK225.out 0).trans rfl; have hcz29_1 : w28.cell? ⟨gb225, 1, none⟩ = some (.slice A0_1 l0_1.length c0_1) := (blk_cell BK225.out 1).trans rfl; have hfz29_0 := blk_frozen BK225.out 0; have hfz29_1 := blk_frozen BK225.out 1) | ((with_reducible refine gate_callee (f := 119) rfl ?_); refine goesL_ (some 8) rfl rfl Tryd.func119 (by kernel_rfl) rfl #[.int .i64 a0_0] rfl (by (try simp only [List.map_toArray, List.map_cons, List.map_nil]); first | done | rfl | (simp only [List.length_drop, List.length_take]; rfl)) ?_; (with_reducible refine (logjamref36_units.calls a0_0 false _ A2.out).mono ?_); rintro e w' ⟨rfl, ⟨nd, rfl⟩⟩; refine ⟨_, rfl, ?_⟩))
  go_ret
  exact ⟨by first | rfl | (simp [errW_none, errW_some] <;> rfl) | (simp [*, errW_none, errW_some] <;> rfl), by repeat (first | (with_reducible first | exact HB.out | apply below_alloc | apply pw_below_drewN | apply below_drew1 | refine below_set ?_ GE225.out) | exact HB.out)⟩
end Go.Proofs.YtadepdeckapgcaaDoor.PRp
end

section
namespace Go.Proofs.YtadepdeckapgcaaDoor.PRp
open Go.RowKit Go.Proofs.YtadepdeckapgcaaDoor.Orc Go.Proofs.YtadepdeckapgcaaDoorW.PrintWords Go.Proofs.YtadepdeckapgcaaDoorW.PrintLast Go.Proofs.YtadepdeckapgcaaDoorW.PrintMore
attribute [local go_sem] max2_int min2_int max_two min_two max_three min_three max_four min_four
set_option linter.unusedVariables false
set_option linter.unusedSimpArgs false
mutual
def logjamref36_Check.j0 : Nat → Bool → Int → List Int → List (S92) → Option (Int)
 | 0, _, _, _, _ => none
 | k + 1, x16, x232000, x232001, x232002 => if x16 = true then (some 1) else (if (x232001.length : Int) = (x232002.length : Int) then (logjamref36_Check.l0 k 0 x232000 x232001 x232002) else (some 2))
def logjamref36_Check.l0 : Nat → Int → Int → List Int → List (S92) → Option (Int)
 | 0, _, _, _, _ => none
 | k + 1, x3, x232000, x232001, x232002 => if x3 < (x232001.length : Int) then (if 0 ≤ x3 then (if (rd x232001 x3) < 0 then (some 2) else (if (rd x232001 x3) > 63 then (some 2) else (if x3 > 0 then (if 0 ≤ (wrap64 (x3 - 1)) then (if (wrap64 (x3 - 1)) < (x232001.length : Int) then (if (rd x232001 x3) ≤ (rd x232001 (wrap64 (x3 - 1))) then (some 2) else (logjamref36_Check.l0 k (wrap64 (x3 + 1)) x232000 x232001 x232002)) else (none)) else (none)) else (logjamref36_Check.l0 k (wrap64 (x3 + 1)) x232000 x232001 x232002)))) else (none)) else (logjamref36_Check.l1 k 0 x232000 x232001 x232002)
def logjamref36_Check.l1 : Nat → Int → Int → List Int → List (S92) → Option (Int)
 | 0, _, _, _, _ => none
 | k + 1, x4, x232000, x232001, x232002 => if x4 < (x232002.length : Int) then (if 0 ≤ x4 then (if ((rd_T92 x232002 x4).f0 = true) then (if (((rd_T92 x232002 x4).f1).length : Int) > 4 then (some 4) else (logjamref36_Check.l2 k x4 0 x232000 x232001 x232002 ((rd_T92 x232002 x4).f0) ((rd_T92 x232002 x4).f1))) else (some 2)) else (none)) else (some 0)
def logjamref36_Check.l2 : Nat → Int → Int → Int → List Int → List (S92) → Bool → List (List (S96)) → Option (Int)
 | 0, _, _, _, _, _, _, _ => none
 | k + 1, x4, x6, x232000, x232001, x232002, x238000, x238001 => if x6 < (x238001.length : Int) then (if 0 ≤ x6 then (if ((rd_L7 x238001 x6).length : Int) > 256 then (some 4) else (logjamref36_Check.l3 k x4 x6 0 x232000 x232001 x232002 x238000 x238001)) else (none)) else (logjamref36_Check.l1 k (wrap64 (x4 + 1)) x232000 x232001 x232002)
def logjamref36_Check.l3 : Nat → Int → Int → Int → Int → List Int → List (S92) → Bool → List (List (S96)) → Option (Int)
 | 0, _, _, _, _, _, _, _, _ => none
 | k + 1, x4, x6, x7, x232000, x232001, x232002, x238000, x238001 => if 0 ≤ x6 then (if x6 < (x238001.length : Int) then (if x7 < ((rd_L7 x238001 x6).length : Int) then (if 0 ≤ x7 then ((logjamref36_term.f k ((rd_T96 (rd_L7 x238001 x6) x7).f0) ((rd_T96 (rd_L7 x238001 x6) x7).f1)).bind fun t242 => (if t242 = 0 then (logjamref36_Check.l3 k x4 x6 (wrap64 (x7 + 1)) x232000 x232001 x232002 x238000 x238001) else (some t242))) else (none)) else (logjamref36_Check.l2 k x4 (wrap64 (x6 + 1)) x232000 x232001 x232002 x238000 x238001)) else (none)) else (none)
end
def logjamref36_Check.f (k : Nat) (a0_0 : Int) (l0_1 : List Int) (l0_2 : List (S92)) : Option (Int) := if a0_0 < 0 then (logjamref36_Check.j0 k true a0_0 l0_1 l0_2) else (logjamref36_Check.j0 k (decide (a0_0 > 1073741824)) a0_0 l0_1 l0_2)
set_option maxHeartbeats 8000000 in
set_option maxRecDepth 100000 in
theorem logjamref36_Check.calls (k : Nat) (a0_0 : Int) (A0_1 : Option Addr) (c0_1 : Nat) (l0_1 : List Int) (A0_2 : Option Addr) (c0_2 : Nat) (l0_2 : List (S92)) (r : Int) (w : World) (hr0_1 : Kd.C (Kd.int .i64) w A0_1 l0_1.length l0_1) (hc0_1 : l0_1.length ≤ c0_1) (hr0_2 : Kd.C k92 w A0_2 l0_2.length l0_2) (hc0_2 : l0_2.length ≤ c0_2) (h : logjamref36_Check.f k a0_0 l0_1 l0_2 = some r) :
  Calls Tryd.prog 38 #[.agg #[.int .i64 a0_0, .slice A0_1 l0_1.length c0_1, .slice A0_2 l0_2.length c0_2]] w fun e w' => e = .returned (.int .i64 r) ∧ Below w.heap.size w w' := by
 have hu25 := Tryd.underlying25
 have hu92 := Tryd.underlying92
 have hu96 := Tryd.underlying96
 have HR0_1 := Aside0.mk hr0_1
 have HC0_1 := Aside0.mk hc0_1
 clear hr0_1 hc0_1
 have HR0_2 := Aside0.mk hr0_2
 have HC0_2 := Aside0.mk hc0_2
 clear hr0_2 hc0_2
 have HB := Aside0.mk (Below.refl w.heap.size w)
 have H : (if a0_0 < 0 then (logjamref36_Check.j0 k true a0_0 l0_1 l0_2) else (logjamref36_Check.j0 k (decide (a0_0 > 1073741824)) a0_0 l0_1 l0_2)) = some r := h
 clear h
 have HC2 := Aside0.mk H
 clear H
 go_enter Tryd.func38, Tryd.ntmps38
 go_upto_region 1 with (first | ((with_reducible refine gate_dst (N := 1) rfl ?_); refine box_event ?hg (N := 1) ?hd (cs := #[.int .i64 a0_0, .slice A0_1 l0_1.length c0_1, .slice A0_2 l0_2.length c0_2]) (t := 25) ?hr ?_; (case hd => rfl); (case hg => rfl); (case hr => first | (go_simp; done) | (go_simp; rfl)); intro gb231 hg w3 hbox hb; have n0_ := Aside0.mk (below_step (by repeat (first | (with_reducible first | exact HB.out | apply below_alloc | apply pw_below_drewN | apply below_drew1) | exact HB.out)) hb); have n1_ := Aside0.mk (hbox); have n2_ := Aside0.mk ((by rw [hg]; exact (below_size (by repeat (first | (with_reducible first | exact HB.out | apply below_alloc | apply pw_below_drewN | apply below_drew1) | exact HB.out))) : w.heap.size ≤ gb231)); have n3_ := Aside0.mk ((by rw [hg]; exact (below_size (by repeat (first | (with_reducible first | exact HB.out | apply below_alloc | apply pw_below_drewN | apply below_drew1) | exact HB.out))) : w.heap.size ≤ gb231)); clear HB; have HB := n0_; have BK231 := n1_; have GW231 := n2_; have GE231 := n3_; clear n0_ n1_ n2_ n3_; clear hb hbox hg))
 repeat (go_quiet (first | ((with_reducible refine gate_dst (N := 1) rfl ?_); refine box_event ?hg (N := 1) ?hd (cs := #[.int .i64 a0_0, .slice A0_1 l0_1.length c0_1, .slice A0_2 l0_2.length c0_2]) (t := 25) ?hr ?_; (case hd => rfl); (case hg => rfl); (case hr => first | (go_simp; done) | (go_simp; rfl)); intro gb231 hg w3 hbox hb; have n0_ := Aside0.mk (below_step (by repeat (first | (with_reducible first | exact HB.out | apply below_alloc | apply pw_below_drewN | apply below_drew1) | exact HB.out)) hb); have n1_ := Aside0.mk (hbox); have n2_ := Aside0.mk ((by rw [hg]; exact (below_size (by repeat (first | (with_reducible first | exact HB.out | apply below_alloc | apply pw_below_drewN | apply below_drew1) | exact HB.out))) : w.heap.size ≤ gb231)); have n3_ := Aside0.mk ((by rw [hg]; exact (below_size (by repeat (first | (with_reducible first | exact HB.out | apply below_alloc | apply pw_below_drewN | apply below_drew1) | exact HB.out))) : w.heap.size ≤ gb231)); clear HB; have HB := n0_; have BK231 := n1_; have GW231 := n2_; have GE231 := n3_; clear n0_ n1_ n2_ n3_; clear hb hbox hg)); go_upto_region 1 with (first | ((with_reducible refine gate_dst (N := 1) rfl ?_); refine box_event ?hg (N := 1) ?hd (cs := #[.int .i64 a0_0, .slice A0_1 l0_1.length c0_1, .slice A0_2 l0_2.length c0_2]) (t := 25) ?hr ?_; (case hd => rfl); (case hg => rfl); (case hr => first | (go_simp; done) | (go_simp; rfl)); intro gb231 hg w3 hbox hb; have n0_ := Aside0.mk (below_step (by repeat (first | (with_reducible first | exact HB.out | apply below_alloc | apply pw_below_drewN | apply below_drew1) | exact HB.out)) hb); have n1_ := Aside0.mk (hbox); have n2_ := Aside0.mk ((by rw [hg]; exact (below_size (by repeat (first | (with_reducible first | exact HB.out | apply below_alloc | apply pw_below_drewN | apply below_drew1) | exact HB.out))) : w.heap.size ≤ gb231)); have n3_ := Aside0.mk ((by rw [hg]; exact (below_size (by repeat (first | (with_reducible first | exact HB.out | apply below_alloc | apply pw_below_drewN | apply below_drew1) | exact HB.out))) : w.heap.size ≤ gb231)); clear HB; have HB := n0_; have BK231 := n1_; have GW231 := n2_; have GE231 := n3_; clear n0_ n1_ n2_ n3_; clear hb hbox hg)))
 (try simp only [Act.put, List.setIfInBounds_toArray, List.set_cons_zero, List.set_cons_succ])
 go_cut [16] (fun v16 wc => ∃ (kq : Nat) (x16_1 : Bool), v16 = .bool x16_1 ∧ Aside0 (logjamref36_Check.j0 kq x16_1 a0_0 l0_1 l0_2 = some r) ∧ Aside0 (kq ≤ k) ∧ Aside0 (wc.heap[gb231]? = some (.cells #[.int .i64 a0_0, (.slice A0_1 l0_1.length c0_1), (.slice A0_2 l0_2.length c0_2)] 25 (0, 0))) ∧ Aside0 (Below w.heap.size w wc))
 case first =>
  have H := HC2.out
  clear HC2
  by_cases c4 : a0_0 < 0
  ·rw [if_pos c4] at H
   have c4b0 : decide (a0_0 < 0) = true := decide_eq_true c4
   clear c4
   (first | rw [c4b0] | (simp only [i64_w, i32_w]; rw [c4b0]) | skip)
   have H' := Aside0.mk H
   clear H
   have hcz5_0 : w3.cell? ⟨gb231, 0, none⟩ = some (.int .i64 a0_0) := (blk_cell BK231.out 0).trans rfl
   have hcz5_1 : w3.cell? ⟨gb231, 1, none⟩ = some (.slice A0_1 l0_1.length c0_1) := (blk_cell BK231.out 1).trans rfl
   have hcz5_2 : w3.cell? ⟨gb231, 2, none⟩ = some (.slice A0_2 l0_2.length c0_2) := (blk_cell BK231.out 2).trans rfl
   have hfz5_0 := blk_frozen BK231.out 0
   have hfz5_1 := blk_frozen BK231.out 1
   have hfz5_2 := blk_frozen BK231.out 2
   go_wp2
   repeat (go_quiet (fail); try go_wp2)
   go_meet
   case rel => exact ⟨_, (true), (by first | rfl | (simp; done) | (simp only [emptyNe_, emptyEq_]; done) | (simp [*]; done)), H', ⟨by first | omega | exact Nat.le_refl _⟩, ⟨by (with_reducible repeat (first | refine blk_drewN ?_ _ | refine blk_drew ?_ | refine blk_alloc ?_ _)); exact BK231.out⟩, ⟨by repeat (first | (with_reducible first | exact HB.out | apply below_alloc | apply pw_below_drewN | apply below_drew1 | refine below_set ?_ GE231.out) | exact HB.out)⟩⟩
  ·rw [if_neg c4] at H
   have c4b0 : decide (a0_0 < 0) = false := decide_eq_false c4
   clear c4
   (first | rw [c4b0] | (simp only [i64_w, i32_w]; rw [c4b0]) | skip)
   have H' := Aside0.mk H
   clear H
   have hcz6_0 : w3.cell? ⟨gb231, 0, none⟩ = some (.int .i64 a0_0) := (blk_cell BK231.out 0).trans rfl
   have hcz6_1 : w3.cell? ⟨gb231, 1, none⟩ = some (.slice A0_1 l0_1.length c0_1) := (blk_cell BK231.out 1).trans rfl
   have hcz6_2 : w3.cell? ⟨gb231, 2, none⟩ = some (.slice A0_2 l0_2.length c0_2) := (blk_cell BK231.out 2).trans rfl
   have hfz6_0 := blk_frozen BK231.out 0
   have hfz6_1 := blk_frozen BK231.out 1
   have hfz6_2 := blk_frozen BK231.out 2
   go_wp2
   repeat (go_quiet (fail); try go_wp2)
   go_meet
   case rel => exact ⟨_, (decide (a0_0 > 1073741824)), (by first | rfl | (simp; done) | (simp only [emptyNe_, emptyEq_]; done) | (simp [*]; done)), H', ⟨by first | omega | exact Nat.le_refl _⟩, ⟨by (with_reducible repeat (first | refine blk_drewN ?_ _ | refine blk_drew ?_ | refine blk_alloc ?_ _)); exact BK231.out⟩, ⟨by repeat (first | (with_reducible first | exact HB.out | apply below_alloc | apply pw_below_drewN | apply below_drew1 | refine below_set ?_ GE231.out) | exact HB.out)⟩⟩
 case rest =>
  clear HC2; try clear p2; try clear c3; try clear c4; try clear c4b0; try clear hcz5_0; try clear hcz5_1; try clear hcz5_2; try clear hcz6_0; try clear hcz6_1; try clear hcz6_2; try clear hfz5_0; try clear hfz5_1; try clear hfz5_2; try clear hfz6_0; try clear hfz6_1; try clear hfz6_2
  obtain ⟨kq, x16_1, rfl, HA, HJ1, BK231, HB⟩ := hcut
  cases kq with
  | zero => exact absurd HA.out (by simp [logjamref36_Check.j0])
  | succ kj1 =>
   have H := HA.out
   clear HA
   simp only [logjamref36_Check.j0] at H
   by_cases c7 : x16_1 = true
   ·subst c7
    have H1 : (some 1) = some r := by rw [if_pos rfl] at H; exact H
    clear H
    have H := H1
    clear H1
    obtain rfl := Option.some.inj H
    go_wp2
    repeat (go_quiet (fail); try go_wp2)
    go_ret
    exact ⟨by first | rfl | (simp [errW_none, errW_some] <;> rfl) | (simp [*, errW_none, errW_some] <;> rfl), by repeat (first | (with_reducible first | exact HB.out | apply below_alloc | apply pw_below_drewN | apply below_drew1 | refine below_set ?_ GE231.out) | exact HB.out)⟩
   ·replace c7 := Bool.eq_false_iff.mpr c7
    subst c7
    have H1 : (if (l0_1.length : Int) = (l0_2.length : Int) then (logjamref36_Check.l0 kj1 0 a0_0 l0_1 l0_2) else (some 2)) = some r := by rw [if_neg (show ¬ (false = true) by decide)] at H; exact H
    clear H
    have H := H1
    clear H1
    by_cases c8 : (l0_1.length : Int) = (l0_2.length : Int)
    ·rw [if_pos c8] at H
     have c8b0 : ((l0_1.length : Int) == (l0_2.length : Int)) = true := beq_iff_eq.mpr c8
     have c8b1 : ((l0_1.length : Int) != (l0_2.length : Int)) = false := bne_eq_false_iff_eq.mpr c8
     have c8b2 : (l0_1.length == l0_2.length) = true := by first | simpa using c8 | (simp at c8 ⊢; omega)
     clear c8
     have H' := Aside0.mk H
     clear H
     have hcz9_0 : wc.cell? ⟨gb231, 0, none⟩ = some (.int .i64 a0_0) := (blk_cell BK231.out 0).trans rfl
     have hcz9_1 : wc.cell? ⟨gb231, 1, none⟩ = some (.slice A0_1 l0_1.length c0_1) := (blk_cell BK231.out 1).trans rfl
     have hcz9_2 : wc.cell? ⟨gb231, 2, none⟩ = some (.slice A0_2 l0_2.length c0_2) := (blk_cell BK231.out 2).trans rfl
     have hfz9_0 := blk_frozen BK231.out 0
     have hfz9_1 := blk_frozen BK231.out 1
     have hfz9_2 := blk_frozen BK231.out 2
     go_wp2
     repeat (go_quiet (fail); try go_wp2)
     go_loopg [3] kj1 (fun kq v3 w' => ∃ (x3_2 : Int), v3 = .int .i64 x3_2 ∧ Aside0 (logjamref36_Check.l0 kq x3_2 a0_0 l0_1 l0_2 = some r) ∧ Aside0 (kq ≤ kj1) ∧ Aside0 (w'.heap[gb231]? = some (.cells #[.int .i64 a0_0, (.slice A0_1 l0_1.length c0_1), (.slice A0_2 l0_2.length c0_2)] 25 (0, 0))) ∧ Aside0 (Below w.heap.size w w'))
     case atStart => exact ⟨(0), (by first | rfl | (simp; done) | (simp only [emptyNe_, emptyEq_]; done) | (simp [*]; done)), H', ⟨Nat.le_refl _⟩, ⟨by (with_reducible repeat (first | refine blk_drewN ?_ _ | refine blk_drew ?_ | refine blk_alloc ?_ _)); exact BK231.out⟩, ⟨by repeat (first | (with_reducible first | exact HB.out | apply below_alloc | apply pw_below_drewN | apply below_drew1 | refine below_set ?_ GE231.out) | exact HB.out)⟩⟩
     case round =>
      clear H'; try clear p2; try clear c3; try clear c4; try clear c4b0; try clear c7; try clear c8; try clear c8b0; try clear c8b1; try clear c8b2; try clear hcz5_0; try clear hcz5_1; try clear hcz5_2; try clear hcz6_0; try clear hcz6_1; try clear hcz6_2; try clear hcz9_0; try clear hcz9_1; try clear hcz9_2; try clear hfz5_0; try clear hfz5_1; try clear hfz5_2; try clear hfz6_0; try clear hfz6_1; try clear hfz6_2; try clear hfz9_0; try clear hfz9_1; try clear hfz9_2; try clear p2
      obtain ⟨x3_2, rfl, HA, HK2, BK231, HB⟩ := hrel
      cases gk with
      | zero => exact absurd HA.out (by simp [logjamref36_Check.l0])
      | succ k2 =>
       have H := HA.out
       clear HA
       simp only [logjamref36_Check.l0] at H
       by_cases c10 : x3_2 < (l0_1.length : Int)
       ·rw [if_pos c10] at H
        have c10b0 : decide (x3_2 < (l0_1.length : Int)) = true := decide_eq_true c10
        clear c10
        by_cases c11 : 0 ≤ x3_2
        ·rw [if_pos c11] at H
         have c11b0 : decide (0 ≤ x3_2) = true := decide_eq_true c11
         clear c11
         by_cases c12 : (rd l0_1 x3_2) < 0
         ·rw [if_pos c12] at H
          have c12b0 : decide ((rd l0_1 x3_2) < 0) = true := decide_eq_true c12
          clear c12
          obtain rfl := Option.some.inj H
          have hcz13_0 : wr.cell? ⟨gb231, 0, none⟩ = some (.int .i64 a0_0) := (blk_cell BK231.out 0).trans rfl
          have hcz13_1 : wr.cell? ⟨gb231, 1, none⟩ = some (.slice A0_1 l0_1.length c0_1) := (blk_cell BK231.out 1).trans rfl
          have hcz13_2 : wr.cell? ⟨gb231, 2, none⟩ = some (.slice A0_2 l0_2.length c0_2) := (blk_cell BK231.out 2).trans rfl
          have hfz13_0 := blk_frozen BK231.out 0
          have hfz13_1 := blk_frozen BK231.out 1
          have hfz13_2 := blk_frozen BK231.out 2
          have p232 : 0 ≤ (x3_2 : Int) := of_decide_eq_true (by first | (with_reducible assumption) | assumption)
          have q232 : x3_2 < (l0_1.length : Int) := of_decide_eq_true (by first | (with_reducible assumption) | assumption)
          obtain ⟨ad232, e232, hx232_0⟩ := Kd.at_int HR0_1.out x3_2 p232 q232
          cases e232
          replace hx232_0 := (HB.out.cell (World.block_lt_of_cell? w _ hx232_0)).trans hx232_0
          replace p232 := eq_true p232
          replace q232 := eq_true q232
          go_wp2
          repeat (go_quiet (fail); try go_wp2)
          go_ret
          exact ⟨by first | rfl | (simp [errW_none, errW_some] <;> rfl) | (simp [*, errW_none, errW_some] <;> rfl), by repeat (first | (with_reducible first | exact HB.out | apply below_alloc | apply pw_below_drewN | apply below_drew1 | refine below_set ?_ GE231.out) | exact HB.out)⟩
         ·rw [if_neg c12] at H
          have c12b0 : decide ((rd l0_1 x3_2) < 0) = false := decide_eq_false c12
          clear c12
          by_cases c14 : (rd l0_1 x3_2) > 63
          ·rw [if_pos c14] at H
           have c14b0 : decide (63 < (rd l0_1 x3_2)) = true := decide_eq_true c14
           clear c14
           obtain rfl := Option.some.inj H
           have hcz15_0 : wr.cell? ⟨gb231, 0, none⟩ = some (.int .i64 a0_0) := (blk_cell BK231.out 0).trans rfl
           have hcz15_1 : wr.cell? ⟨gb231, 1, none⟩ = some (.slice A0_1 l0_1.length c0_1) := (blk_cell BK231.out 1).trans rfl
           have hcz15_2 : wr.cell? ⟨gb231, 2, none⟩ = some (.slice A0_2 l0_2.length c0_2) := (blk_cell BK231.out 2).trans rfl
           have hfz15_0 := blk_frozen BK231.out 0
           have hfz15_1 := blk_frozen BK231.out 1
           have hfz15_2 := blk_frozen BK231.out 2
           have p232 : 0 ≤ (x3_2 : Int) := of_decide_eq_true (by first | (with_reducible assumption) | assumption)
           have q232 : x3_2 < (l0_1.length : Int) := of_decide_eq_true (by first | (with_reducible assumption) | assumption)
           obtain ⟨ad232, e232, hx232_0⟩ := Kd.at_int HR0_1.out x3_2 p232 q232
           cases e232
           replace hx232_0 := (HB.out.cell (World.block_lt_of_cell? w _ hx232_0)).trans hx232_0
           replace p232 := eq_true p232
           replace q232 := eq_true q232
           have p233 : 0 ≤ (x3_2 : Int) := of_decide_eq_true (by first | (with_reducible assumption) | assumption)
           have q233 : x3_2 < (l0_1.length : Int) := of_decide_eq_true (by first | (with_reducible assumption) | assumption)
           obtain ⟨ad233, e233, hx233_0⟩ := Kd.at_int HR0_1.out x3_2 p233 q233
           obtain rfl : ad232 = ad233 := (by injection e233)
           replace hx233_0 := (HB.out.cell (World.block_lt_of_cell? w _ hx233_0)).trans hx233_0
           replace p233 := eq_true p233
           replace q233 := eq_true q233
           go_wp2
           repeat (go_quiet (fail); try go_wp2)
           go_ret
           exact ⟨by first | rfl | (simp [errW_none, errW_some] <;> rfl) | (simp [*, errW_none, errW_some] <;> rfl), by repeat (first | (with_reducible first | exact HB.out | apply below_alloc | apply pw_below_drewN | apply below_drew1 | refine below_set ?_ GE231.out) | exact HB.out)⟩
          ·rw [if_neg c14] at H
           have c14b0 : decide (63 < (rd l0_1 x3_2)) = false := decide_eq_false c14
           clear c14
           by_cases c16 : x3_2 > 0
           ·rw [if_pos c16] at H
            have c16b0 : decide (0 < x3_2) = true := decide_eq_true c16
            clear c16
            obtain ⟨ji17, hji17⟩ : ∃ j_ : Int, (wrap64 (x3_2 - 1)) = j_ := ⟨_, rfl⟩
            replace H : (if 0 ≤ (ji17) then (if (ji17) < (l0_1.length : Int) then (if (rd l0_1 x3_2) ≤ (rd l0_1 (ji17)) then (some 2) else (logjamref36_Check.l0 k2 (wrap64 (x3_2 + 1)) a0_0 l0_1 l0_2)) else (none)) else (none)) = some r := by first | (rw [hji17] at H; exact H) | (simp only [hji17] at H ⊢; exact H)
            have hji17w : (IntKind.i64.wrap (x3_2 - 1)) = ji17 := (i64_w _).trans hji17
            by_cases c18 : 0 ≤ (ji17)
            ·rw [if_pos c18] at H
             have c18b0 : decide (0 ≤ (ji17)) = true := decide_eq_true c18
             clear c18
             by_cases c19 : (ji17) < (l0_1.length : Int)
             ·rw [if_pos c19] at H
              have c19b0 : decide ((ji17) < (l0_1.length : Int)) = true := decide_eq_true c19
              clear c19
              by_cases c20 : (rd l0_1 x3_2) ≤ (rd l0_1 (ji17))
              ·rw [if_pos c20] at H
               have c20b0 : decide ((rd l0_1 x3_2) ≤ (rd l0_1 (ji17))) = true := decide_eq_true c20
               clear c20
               obtain rfl := Option.some.inj H
               have hcz21_0 : wr.cell? ⟨gb231, 0, none⟩ = some (.int .i64 a0_0) := (blk_cell BK231.out 0).trans rfl
               have hcz21_1 : wr.cell? ⟨gb231, 1, none⟩ = some (.slice A0_1 l0_1.length c0_1) := (blk_cell BK231.out 1).trans rfl
               have hcz21_2 : wr.cell? ⟨gb231, 2, none⟩ = some (.slice A0_2 l0_2.length c0_2) := (blk_cell BK231.out 2).trans rfl
               have hfz21_0 := blk_frozen BK231.out 0
               have hfz21_1 := blk_frozen BK231.out 1
               have hfz21_2 := blk_frozen BK231.out 2
               have p232 : 0 ≤ (x3_2 : Int) := of_decide_eq_true (by first | (with_reducible assumption) | assumption)
               have q232 : x3_2 < (l0_1.length : Int) := of_decide_eq_true (by first | (with_reducible assumption) | assumption)
               obtain ⟨ad232, e232, hx232_0⟩ := Kd.at_int HR0_1.out x3_2 p232 q232
               cases e232
               replace hx232_0 := (HB.out.cell (World.block_lt_of_cell? w _ hx232_0)).trans hx232_0
               replace p232 := eq_true p232
               replace q232 := eq_true q232
               have p233 : 0 ≤ (x3_2 : Int) := of_decide_eq_true (by first | (with_reducible assumption) | assumption)
               have q233 : x3_2 < (l0_1.length : Int) := of_decide_eq_true (by first | (with_reducible assumption) | assumption)
               obtain ⟨ad233, e233, hx233_0⟩ := Kd.at_int HR0_1.out x3_2 p233 q233
               obtain rfl : ad232 = ad233 := (by injection e233)
               replace hx233_0 := (HB.out.cell (World.block_lt_of_cell? w _ hx233_0)).trans hx233_0
               replace p233 := eq_true p233
               replace q233 := eq_true q233
               have p234 : 0 ≤ (x3_2 : Int) := of_decide_eq_true (by first | (with_reducible assumption) | assumption)
               have q234 : x3_2 < (l0_1.length : Int) := of_decide_eq_true (by first | (with_reducible assumption) | assumption)
               obtain ⟨ad234, e234, hx234_0⟩ := Kd.at_int HR0_1.out x3_2 p234 q234
               obtain rfl : ad232 = ad234 := (by injection e234)
               replace hx234_0 := (HB.out.cell (World.block_lt_of_cell? w _ hx234_0)).trans hx234_0
               replace p234 := eq_true p234
               replace q234 := eq_true q234
               have p235 : 0 ≤ ((ji17) : Int) := of_decide_eq_true (by first | (with_reducible assumption) | assumption)
               have q235 : (ji17) < (l0_1.length : Int) := of_decide_eq_true (by first | (with_reducible assumption) | assumption)
               obtain ⟨ad235, e235, hx235_0⟩ := Kd.at_int HR0_1.out (ji17) p235 q235
               obtain rfl : ad232 = ad235 := (by injection e235)
               replace hx235_0 := (HB.out.cell (World.block_lt_of_cell? w _ hx235_0)).trans hx235_0
               replace p235 := eq_true p235
               replace q235 := eq_true q235
               go_wp2
               repeat (go_quiet (fail); try go_wp2)
               go_ret
               exact ⟨by first | rfl | (simp [errW_none, errW_some] <;> rfl) | (simp only [← hji17]; first | rfl | (simp [errW_none, errW_some] <;> rfl)) | (simp [*, errW_none, errW_some] <;> rfl), by repeat (first | (with_reducible first | exact HB.out | apply below_alloc | apply pw_below_drewN | apply below_drew1 | refine below_set ?_ GE231.out) | exact HB.out)⟩
              ·rw [if_neg c20] at H
               have c20b0 : decide ((rd l0_1 x3_2) ≤ (rd l0_1 (ji17))) = false := decide_eq_false c20
               clear c20
               have H' := Aside0.mk H
               clear H
               have hcz22_0 : wr.cell? ⟨gb231, 0, none⟩ = some (.int .i64 a0_0) := (blk_cell BK231.out 0).trans rfl
               have hcz22_1 : wr.cell? ⟨gb231, 1, none⟩ = some (.slice A0_1 l0_1.length c0_1) := (blk_cell BK231.out 1).trans rfl
               have hcz22_2 : wr.cell? ⟨gb231, 2, none⟩ = some (.slice A0_2 l0_2.length c0_2) := (blk_cell BK231.out 2).trans rfl
               have hfz22_0 := blk_frozen BK231.out 0
               have hfz22_1 := blk_frozen BK231.out 1
               have hfz22_2 := blk_frozen BK231.out 2
               have p232 : 0 ≤ (x3_2 : Int) := of_decide_eq_true (by first | (with_reducible assumption) | assumption)
               have q232 : x3_2 < (l0_1.length : Int) := of_decide_eq_true (by first | (with_reducible assumption) | assumption)
               obtain ⟨ad232, e232, hx232_0⟩ := Kd.at_int HR0_1.out x3_2 p232 q232
               cases e232
               replace hx232_0 := (HB.out.cell (World.block_lt_of_cell? w _ hx232_0)).trans hx232_0
               replace p232 := eq_true p232
               replace q232 := eq_true q232
               have p233 : 0 ≤ (x3_2 : Int) := of_decide_eq_true (by first | (with_reducible assumption) | assumption)
               have q233 : x3_2 < (l0_1.length : Int) := of_decide_eq_true (by first | (with_reducible assumption) | assumption)
               obtain ⟨ad233, e233, hx233_0⟩ := Kd.at_int HR0_1.out x3_2 p233 q233
               obtain rfl : ad232 = ad233 := (by injection e233)
               replace hx233_0 := (HB.out.cell (World.block_lt_of_cell? w _ hx233_0)).trans hx233_0
               replace p233 := eq_true p233
               replace q233 := eq_true q233
               have p234 : 0 ≤ (x3_2 : Int) := of_decide_eq_true (by first | (with_reducible assumption) | assumption)
               have q234 : x3_2 < (l0_1.length : Int) := of_decide_eq_true (by first | (with_reducible assumption) | assumption)
               obtain ⟨ad234, e234, hx234_0⟩ := Kd.at_int HR0_1.out x3_2 p234 q234
               obtain rfl : ad232 = ad234 := (by injection e234)
               replace hx234_0 := (HB.out.cell (World.block_lt_of_cell? w _ hx234_0)).trans hx234_0
               replace p234 := eq_true p234
               replace q234 := eq_true q234
               have p235 : 0 ≤ ((ji17) : Int) := of_decide_eq_true (by first | (with_reducible assumption) | assumption)
               have q235 : (ji17) < (l0_1.length : Int) := of_decide_eq_true (by first | (with_reducible assumption) | assumption)
               obtain ⟨ad235, e235, hx235_0⟩ := Kd.at_int HR0_1.out (ji17) p235 q235
               obtain rfl : ad232 = ad235 := (by injection e235)
               replace hx235_0 := (HB.out.cell (World.block_lt_of_cell? w _ hx235_0)).trans hx235_0
               replace p235 := eq_true p235
               replace q235 := eq_true q235
               go_wp2
               repeat (go_quiet (fail); try go_wp2)
               go_roundg k2
               case measure => have := HJ1.out; have := HK2.out; omega
               case rel => exact ⟨(wrap64 (x3_2 + 1)), (by first | rfl | (simp; done) | (simp only [emptyNe_, emptyEq_]; done) | (simp [*]; done)), H', ⟨by have := HJ1.out; have := HK2.out; omega⟩, ⟨by (with_reducible repeat (first | refine blk_drewN ?_ _ | refine blk_drew ?_ | refine blk_alloc ?_ _)); exact BK231.out⟩, ⟨by repeat (first | (with_reducible first | exact HB.out | apply below_alloc | apply pw_below_drewN | apply below_drew1 | refine below_set ?_ GE231.out) | exact HB.out)⟩⟩
             ·rw [if_neg c19] at H
              exact absurd H (by simp)
            ·rw [if_neg c18] at H
             exact absurd H (by simp)
           ·rw [if_neg c16] at H
            have c16b0 : decide (0 < x3_2) = false := decide_eq_false c16
            clear c16
            have H' := Aside0.mk H
            clear H
            have hcz23_0 : wr.cell? ⟨gb231, 0, none⟩ = some (.int .i64 a0_0) := (blk_cell BK231.out 0).trans rfl
            have hcz23_1 : wr.cell? ⟨gb231, 1, none⟩ = some (.slice A0_1 l0_1.length c0_1) := (blk_cell BK231.out 1).trans rfl
            have hcz23_2 : wr.cell? ⟨gb231, 2, none⟩ = some (.slice A0_2 l0_2.length c0_2) := (blk_cell BK231.out 2).trans rfl
            have hfz23_0 := blk_frozen BK231.out 0
            have hfz23_1 := blk_frozen BK231.out 1
            have hfz23_2 := blk_frozen BK231.out 2
            have p232 : 0 ≤ (x3_2 : Int) := of_decide_eq_true (by first | (with_reducible assumption) | assumption)
            have q232 : x3_2 < (l0_1.length : Int) := of_decide_eq_true (by first | (with_reducible assumption) | assumption)
            obtain ⟨ad232, e232, hx232_0⟩ := Kd.at_int HR0_1.out x3_2 p232 q232
            cases e232
            replace hx232_0 := (HB.out.cell (World.block_lt_of_cell? w _ hx232_0)).trans hx232_0
            replace p232 := eq_true p232
            replace q232 := eq_true q232
            have p233 : 0 ≤ (x3_2 : Int) := of_decide_eq_true (by first | (with_reducible assumption) | assumption)
            have q233 : x3_2 < (l0_1.length : Int) := of_decide_eq_true (by first | (with_reducible assumption) | assumption)
            obtain ⟨ad233, e233, hx233_0⟩ := Kd.at_int HR0_1.out x3_2 p233 q233
            obtain rfl : ad232 = ad233 := (by injection e233)
            replace hx233_0 := (HB.out.cell (World.block_lt_of_cell? w _ hx233_0)).trans hx233_0
            replace p233 := eq_true p233
            replace q233 := eq_true q233
            go_wp2
            repeat (go_quiet (fail); try go_wp2)
            go_roundg k2
            case measure => have := HJ1.out; have := HK2.out; omega
            case rel => exact ⟨(wrap64 (x3_2 + 1)), (by first | rfl | (simp; done) | (simp only [emptyNe_, emptyEq_]; done) | (simp [*]; done)), H', ⟨by have := HJ1.out; have := HK2.out; omega⟩, ⟨by (with_reducible repeat (first | refine blk_drewN ?_ _ | refine blk_drew ?_ | refine blk_alloc ?_ _)); exact BK231.out⟩, ⟨by repeat (first | (with_reducible first | exact HB.out | apply below_alloc | apply pw_below_drewN | apply below_drew1 | refine below_set ?_ GE231.out) | exact HB.out)⟩⟩
        ·rw [if_neg c11] at H
         exact absurd H (by simp)
       ·rw [if_neg c10] at H
        have c10b0 : decide (x3_2 < (l0_1.length : Int)) = false := decide_eq_false c10
        clear c10
        have H' := Aside0.mk H
        clear H
        have hcz24_0 : wr.cell? ⟨gb231, 0, none⟩ = some (.int .i64 a0_0) := (blk_cell BK231.out 0).trans rfl
        have hcz24_1 : wr.cell? ⟨gb231, 1, none⟩ = some (.slice A0_1 l0_1.length c0_1) := (blk_cell BK231.out 1).trans rfl
        have hcz24_2 : wr.cell? ⟨gb231, 2, none⟩ = some (.slice A0_2 l0_2.length c0_2) := (blk_cell BK231.out 2).trans rfl
        have hfz24_0 := blk_frozen BK231.out 0
        have hfz24_1 := blk_frozen BK231.out 1
        have hfz24_2 := blk_frozen BK231.out 2
        go_wp2
        repeat (go_quiet (fail); try go_wp2)
        go_loopg [4] k2 (fun kq v4 w' => ∃ (x4_3 : Int), v4 = .int .i64 x4_3 ∧ Aside0 (logjamref36_Check.l1 kq x4_3 a0_0 l0_1 l0_2 = some r) ∧ Aside0 (kq ≤ k2) ∧ Aside0 (w'.heap[gb231]? = some (.cells #[.int .i64 a0_0, (.slice A0_1 l0_1.length c0_1), (.slice A0_2 l0_2.length c0_2)] 25 (0, 0))) ∧ Aside0 (Below w.heap.size w w'))
        case atStart => exact ⟨(0), (by first | rfl | (simp; done) | (simp only [emptyNe_, emptyEq_]; done) | (simp [*]; done)), H', ⟨Nat.le_refl _⟩, ⟨by (with_reducible repeat (first | refine blk_drewN ?_ _ | refine blk_drew ?_ | refine blk_alloc ?_ _)); exact BK231.out⟩, ⟨by repeat (first | (with_reducible first | exact HB.out | apply below_alloc | apply pw_below_drewN | apply below_drew1 | refine below_set ?_ GE231.out) | exact HB.out)⟩⟩
        case round =>
         clear H'; try clear c1; try clear c2; try clear p2; try clear q2; try clear hx2; try clear c3; try clear c4; try clear c4b0; try clear p6; try clear c7; try clear c8; try clear c8b0; try clear c8b1; try clear c8b2; try clear c10; try clear c10b0; try clear c11; try clear c11b0; try clear c12; try clear c12b0; try clear c14; try clear c14b0; try clear c16; try clear c16b0; try clear c18; try clear c18b0; try clear c19; try clear c19b0; try clear c20; try clear c20b0; try clear p23; try clear q23; try clear hx23; try clear hcz13_0; try clear hcz13_1; try clear hcz13_2; try clear hcz15_0; try clear hcz15_1; try clear hcz15_2; try clear hcz21_0; try clear hcz21_1; try clear hcz21_2; try clear hcz22_0; try clear hcz22_1; try clear hcz22_2; try clear hcz23_0; try clear hcz23_1; try clear hcz23_2; try clear hcz24_0; try clear hcz24_1; try clear hcz24_2; try clear hcz5_0; try clear hcz5_1; try clear hcz5_2; try clear hcz6_0; try clear hcz6_1; try clear hcz6_2; try clear hcz9_0; try clear hcz9_1; try clear hcz9_2; try clear hfz13_0; try clear hfz13_1; try clear hfz13_2; try clear hfz15_0; try clear hfz15_1; try clear hfz15_2; try clear hfz21_0; try clear hfz21_1; try clear hfz21_2; try clear hfz22_0; try clear hfz22_1; try clear hfz22_2; try clear hfz23_0; try clear hfz23_1; try clear hfz23_2; try clear hfz24_0; try clear hfz24_1; try clear hfz24_2; try clear hfz5_0; try clear hfz5_1; try clear hfz5_2; try clear hfz6_0; try clear hfz6_1; try clear hfz6_2; try clear hfz9_0; try clear hfz9_1; try clear hfz9_2; try clear hx232_0; try clear hx233_0; try clear hx234_0; try clear hx235_0; try clear p2; try clear p232; try clear p233; try clear p234; try clear p235; try clear q232; try clear q233; try clear q234; try clear q235
         obtain ⟨x4_3, rfl, HA, HK3, BK231, HB⟩ := hrel
         cases gk with
         | zero => exact absurd HA.out (by simp [logjamref36_Check.l1])
         | succ k3 =>
          have H := HA.out
          clear HA
          simp only [logjamref36_Check.l1] at H
          by_cases c25 : x4_3 < (l0_2.length : Int)
          ·rw [if_pos c25] at H
           have c25b0 : decide (x4_3 < (l0_2.length : Int)) = true := decide_eq_true c25
           clear c25
           by_cases c26 : 0 ≤ x4_3
           ·rw [if_pos c26] at H
            have c26b0 : decide (0 ≤ x4_3) = true := decide_eq_true c26
            clear c26
            obtain ⟨bq27, hbq27⟩ : ∃ b_ : Bool, b_ = ((rd_T92 l0_2 x4_3).f0) := ⟨_, rfl⟩
            replace H : (if (bq27 = true) then (if (((rd_T92 l0_2 x4_3).f1).length : Int) > 4 then (some 4) else (logjamref36_Check.l2 k3 x4_3 0 a0_0 l0_1 l0_2 bq27 ((rd_T92 l0_2 x4_3).f1))) else (some 2)) = some r := by rw [← hbq27] at H; exact H
            have Nbq27 := Aside0.mk hbq27
            clear hbq27
            by_cases c28 : (bq27 = true)
            ·subst c28
             have H1 : (if (((rd_T92 l0_2 x4_3).f1).length : Int) > 4 then (some 4) else (logjamref36_Check.l2 k3 x4_3 0 a0_0 l0_1 l0_2 true ((rd_T92 l0_2 x4_3).f1))) = some r := by rw [if_pos rfl] at H; exact H
             clear H
             have H := H1
             clear H1
             by_cases c29 : (((rd_T92 l0_2 x4_3).f1).length : Int) > 4
             ·rw [if_pos c29] at H
              have c29b0 : decide (4 < (((rd_T92 l0_2 x4_3).f1).length : Int)) = true := decide_eq_true c29
              have c29b1 : decide (4 < ((rd_T92 l0_2 x4_3).f1).length) = true := decide_eq_true (by omega)
              clear c29
              obtain rfl := Option.some.inj H
              have hcz30_0 : wr.cell? ⟨gb231, 0, none⟩ = some (.int .i64 a0_0) := (blk_cell BK231.out 0).trans rfl
              have hcz30_1 : wr.cell? ⟨gb231, 1, none⟩ = some (.slice A0_1 l0_1.length c0_1) := (blk_cell BK231.out 1).trans rfl
              have hcz30_2 : wr.cell? ⟨gb231, 2, none⟩ = some (.slice A0_2 l0_2.length c0_2) := (blk_cell BK231.out 2).trans rfl
              have hfz30_0 := blk_frozen BK231.out 0
              have hfz30_1 := blk_frozen BK231.out 1
              have hfz30_2 := blk_frozen BK231.out 2
              have p236 : 0 ≤ (x4_3 : Int) := of_decide_eq_true (by first | (with_reducible assumption) | assumption)
              have q236 : x4_3 < (l0_2.length : Int) := of_decide_eq_true (by first | (with_reducible assumption) | assumption)
              obtain ⟨ad236, A236_1, c236_1, e236, hx236_0, hx236_1, hl236_1, hi236_1⟩ := at_T92 HR0_2.out x4_3 p236 q236
              (try rw [← Nbq27.out] at hx236_0)
              cases e236
              replace hx236_0 := (HB.out.cell (World.block_lt_of_cell? w _ hx236_0)).trans hx236_0
              replace hx236_1 := (HB.out.cell (World.block_lt_of_cell? w _ hx236_1)).trans hx236_1
              have HR236_1 := Aside0.mk hi236_1
              have HC236_1 := Aside0.mk hl236_1
              clear hi236_1 hl236_1
              replace p236 := eq_true p236
              replace q236 := eq_true q236
              go_wp2_with (first | ((with_reducible refine gate_dst (N := 5) rfl ?_); refine box_event ?hg (N := 5) ?hd (cs := #[.bool false, .slice none 0 0]) (t := 92) ?hr ?_; (case hd => rfl); (case hg => rfl); (case hr => first | (go_simp; done) | (go_simp; rfl)); intro gb237 hg w31 hbox hb; have n0_ := Aside0.mk (blk_below (g := gb231) (o := .cells #[.int .i64 a0_0, .slice A0_1 l0_1.length c0_1, .slice (some ad236) l0_2.length c0_2] 25 (0, 0)) (by (with_reducible repeat (first | refine blk_drewN ?_ _ | refine blk_drew ?_ | refine blk_alloc ?_ _)); exact BK231.out) hb); have n1_ := Aside0.mk (below_step (by repeat (first | (with_reducible first | exact HB.out | apply below_alloc | apply pw_below_drewN | apply below_drew1 | refine below_set ?_ GE231.out) | exact HB.out)) hb); have n2_ := Aside0.mk (hbox); have n3_ := Aside0.mk ((by rw [hg]; exact (below_size (by repeat (first | (with_reducible first | exact HB.out | apply below_alloc | apply pw_below_drewN | apply below_drew1 | refine below_set ?_ GE231.out) | exact HB.out))) : w.heap.size ≤ gb237)); have n4_ := Aside0.mk ((by rw [hg]; exact (below_size (by repeat (first | (with_reducible first | exact HB.out | apply below_alloc | apply pw_below_drewN | apply below_drew1 | refine below_set ?_ GE231.out) | exact HB.out))) : w.heap.size ≤ gb237)); have n5_ := Aside0.mk ((by rw [hg]; exact Nat.ne_of_lt (blk_lt (g := gb231) (o := .cells #[.int .i64 a0_0, .slice A0_1 l0_1.length c0_1, .slice (some ad236) l0_2.length c0_2] 25 (0, 0)) (by (with_reducible repeat (first | refine blk_drewN ?_ _ | refine blk_drew ?_ | refine blk_alloc ?_ _)); exact BK231.out)) : gb231 ≠ gb237)); have n6_ := Aside0.mk ((by rw [hg]; exact Nat.ne_of_gt (blk_lt (g := gb231) (o := .cells #[.int .i64 a0_0, .slice A0_1 l0_1.length c0_1, .slice (some ad236) l0_2.length c0_2] 25 (0, 0)) (by (with_reducible repeat (first | refine blk_drewN ?_ _ | refine blk_drew ?_ | refine blk_alloc ?_ _)); exact BK231.out)) : gb237 ≠ gb231)); clear BK231; clear HB; have BK231 := n0_; have HB := n1_; have BK237 := n2_; have GW237 := n3_; have GE237 := n4_; have NB231_237 := n5_; have NB237_231 := n6_; clear n0_ n1_ n2_ n3_ n4_ n5_ n6_; clear hb hbox hg; have hnb32 := NB237_231.out; have hnc32 := NB231_237.out; have hcz33_0 : w31.cell? ⟨gb237, 0, none⟩ = some (.bool false) := (blk_cell BK237.out 0).trans rfl; have hcz33_1 : w31.cell? ⟨gb237, 1, none⟩ = some (.slice none 0 0) := (blk_cell BK237.out 1).trans rfl; have hfz33_0 := blk_frozen BK237.out 0; have hfz33_1 := blk_frozen BK237.out 1))
              repeat (go_quiet (first | ((with_reducible refine gate_dst (N := 5) rfl ?_); refine box_event ?hg (N := 5) ?hd (cs := #[.bool false, .slice none 0 0]) (t := 92) ?hr ?_; (case hd => rfl); (case hg => rfl); (case hr => first | (go_simp; done) | (go_simp; rfl)); intro gb237 hg w31 hbox hb; have n0_ := Aside0.mk (blk_below (g := gb231) (o := .cells #[.int .i64 a0_0, .slice A0_1 l0_1.length c0_1, .slice (some ad236) l0_2.length c0_2] 25 (0, 0)) (by (with_reducible repeat (first | refine blk_drewN ?_ _ | refine blk_drew ?_ | refine blk_alloc ?_ _)); exact BK231.out) hb); have n1_ := Aside0.mk (below_step (by repeat (first | (with_reducible first | exact HB.out | apply below_alloc | apply pw_below_drewN | apply below_drew1 | refine below_set ?_ GE231.out) | exact HB.out)) hb); have n2_ := Aside0.mk (hbox); have n3_ := Aside0.mk ((by rw [hg]; exact (below_size (by repeat (first | (with_reducible first | exact HB.out | apply below_alloc | apply pw_below_drewN | apply below_drew1 | refine below_set ?_ GE231.out) | exact HB.out))) : w.heap.size ≤ gb237)); have n4_ := Aside0.mk ((by rw [hg]; exact (below_size (by repeat (first | (with_reducible first | exact HB.out | apply below_alloc | apply pw_below_drewN | apply below_drew1 | refine below_set ?_ GE231.out) | exact HB.out))) : w.heap.size ≤ gb237)); have n5_ := Aside0.mk ((by rw [hg]; exact Nat.ne_of_lt (blk_lt (g := gb231) (o := .cells #[.int .i64 a0_0, .slice A0_1 l0_1.length c0_1, .slice (some ad236) l0_2.length c0_2] 25 (0, 0)) (by (with_reducible repeat (first | refine blk_drewN ?_ _ | refine blk_drew ?_ | refine blk_alloc ?_ _)); exact BK231.out)) : gb231 ≠ gb237)); have n6_ := Aside0.mk ((by rw [hg]; exact Nat.ne_of_gt (blk_lt (g := gb231) (o := .cells #[.int .i64 a0_0, .slice A0_1 l0_1.length c0_1, .slice (some ad236) l0_2.length c0_2] 25 (0, 0)) (by (with_reducible repeat (first | refine blk_drewN ?_ _ | refine blk_drew ?_ | refine blk_alloc ?_ _)); exact BK231.out)) : gb237 ≠ gb231)); clear BK231; clear HB; have BK231 := n0_; have HB := n1_; have BK237 := n2_; have GW237 := n3_; have GE237 := n4_; have NB231_237 := n5_; have NB237_231 := n6_; clear n0_ n1_ n2_ n3_ n4_ n5_ n6_; clear hb hbox hg; have hnb32 := NB237_231.out; have hnc32 := NB231_237.out; have hcz33_0 : w31.cell? ⟨gb237, 0, none⟩ = some (.bool false) := (blk_cell BK237.out 0).trans rfl; have hcz33_1 : w31.cell? ⟨gb237, 1, none⟩ = some (.slice none 0 0) := (blk_cell BK237.out 1).trans rfl; have hfz33_0 := blk_frozen BK237.out 0; have hfz33_1 := blk_frozen BK237.out 1)); try go_wp2_with (first | ((with_reducible refine gate_dst (N := 5) rfl ?_); refine box_event ?hg (N := 5) ?hd (cs := #[.bool false, .slice none 0 0]) (t := 92) ?hr ?_; (case hd => rfl); (case hg => rfl); (case hr => first | (go_simp; done) | (go_simp; rfl)); intro gb237 hg w31 hbox hb; have n0_ := Aside0.mk (blk_below (g := gb231) (o := .cells #[.int .i64 a0_0, .slice A0_1 l0_1.length c0_1, .slice (some ad236) l0_2.length c0_2] 25 (0, 0)) (by (with_reducible repeat (first | refine blk_drewN ?_ _ | refine blk_drew ?_ | refine blk_alloc ?_ _)); exact BK231.out) hb); have n1_ := Aside0.mk (below_step (by repeat (first | (with_reducible first | exact HB.out | apply below_alloc | apply pw_below_drewN | apply below_drew1 | refine below_set ?_ GE231.out) | exact HB.out)) hb); have n2_ := Aside0.mk (hbox); have n3_ := Aside0.mk ((by rw [hg]; exact (below_size (by repeat (first | (with_reducible first | exact HB.out | apply below_alloc | apply pw_below_drewN | apply below_drew1 | refine below_set ?_ GE231.out) | exact HB.out))) : w.heap.size ≤ gb237)); have n4_ := Aside0.mk ((by rw [hg]; exact (below_size (by repeat (first | (with_reducible first | exact HB.out | apply below_alloc | apply pw_below_drewN | apply below_drew1 | refine below_set ?_ GE231.out) | exact HB.out))) : w.heap.size ≤ gb237)); have n5_ := Aside0.mk ((by rw [hg]; exact Nat.ne_of_lt (blk_lt (g := gb231) (o := .cells #[.int .i64 a0_0, .slice A0_1 l0_1.length c0_1, .slice (some ad236) l0_2.length c0_2] 25 (0, 0)) (by (with_reducible repeat (first | refine blk_drewN ?_ _ | refine blk_drew ?_ | refine blk_alloc ?_ _)); exact BK231.out)) : gb231 ≠ gb237)); have n6_ := Aside0.mk ((by rw [hg]; exact Nat.ne_of_gt (blk_lt (g := gb231) (o := .cells #[.int .i64 a0_0, .slice A0_1 l0_1.length c0_1, .slice (some ad236) l0_2.length c0_2] 25 (0, 0)) (by (with_reducible repeat (first | refine blk_drewN ?_ _ | refine blk_drew ?_ | refine blk_alloc ?_ _)); exact BK231.out)) : gb237 ≠ gb231)); clear BK231; clear HB; have BK231 := n0_; have HB := n1_; have BK237 := n2_; have GW237 := n3_; have GE237 := n4_; have NB231_237 := n5_; have NB237_231 := n6_; clear n0_ n1_ n2_ n3_ n4_ n5_ n6_; clear hb hbox hg; have hnb32 := NB237_231.out; have hnc32 := NB231_237.out; have hcz33_0 : w31.cell? ⟨gb237, 0, none⟩ = some (.bool false) := (blk_cell BK237.out 0).trans rfl; have hcz33_1 : w31.cell? ⟨gb237, 1, none⟩ = some (.slice none 0 0) := (blk_cell BK237.out 1).trans rfl; have hfz33_0 := blk_frozen BK237.out 0; have hfz33_1 := blk_frozen BK237.out 1)))
              go_ret
              exact ⟨by first | rfl | (simp [errW_none, errW_some] <;> rfl) | (simp [*, errW_none, errW_some] <;> rfl), by repeat (first | (with_reducible first | exact HB.out | apply below_alloc | apply pw_below_drewN | apply below_drew1 | refine below_set ?_ GE231.out | refine below_set ?_ GE237.out) | exact HB.out)⟩
             ·rw [if_neg c29] at H
              have c29b0 : decide (4 < (((rd_T92 l0_2 x4_3).f1).length : Int)) = false := decide_eq_false c29
              have c29b1 : decide (4 < ((rd_T92 l0_2 x4_3).f1).length) = false := decide_eq_false (by omega)
              clear c29
              have H' := Aside0.mk H
              clear H
              have hcz34_0 : wr.cell? ⟨gb231, 0, none⟩ = some (.int .i64 a0_0) := (blk_cell BK231.out 0).trans rfl
              have hcz34_1 : wr.cell? ⟨gb231, 1, none⟩ = some (.slice A0_1 l0_1.length c0_1) := (blk_cell BK231.out 1).trans rfl
              have hcz34_2 : wr.cell? ⟨gb231, 2, none⟩ = some (.slice A0_2 l0_2.length c0_2) := (blk_cell BK231.out 2).trans rfl
              have hfz34_0 := blk_frozen BK231.out 0
              have hfz34_1 := blk_frozen BK231.out 1
              have hfz34_2 := blk_frozen BK231.out 2
              have p236 : 0 ≤ (x4_3 : Int) := of_decide_eq_true (by first | (with_reducible assumption) | assumption)
              have q236 : x4_3 < (l0_2.length : Int) := of_decide_eq_true (by first | (with_reducible assumption) | assumption)
              obtain ⟨ad236, A236_1, c236_1, e236, hx236_0, hx236_1, hl236_1, hi236_1⟩ := at_T92 HR0_2.out x4_3 p236 q236
              (try rw [← Nbq27.out] at hx236_0)
              cases e236
              replace hx236_0 := (HB.out.cell (World.block_lt_of_cell? w _ hx236_0)).trans hx236_0
              replace hx236_1 := (HB.out.cell (World.block_lt_of_cell? w _ hx236_1)).trans hx236_1
              have HR236_1 := Aside0.mk hi236_1
              have HC236_1 := Aside0.mk hl236_1
              clear hi236_1 hl236_1
              replace p236 := eq_true p236
              replace q236 := eq_true q236
              go_wp2_with (first | ((with_reducible refine gate_dst (N := 5) rfl ?_); refine box_event ?hg (N := 5) ?hd (cs := #[.bool false, .slice none 0 0]) (t := 92) ?hr ?_; (case hd => rfl); (case hg => rfl); (case hr => first | (go_simp; done) | (go_simp; rfl)); intro gb237 hg w35 hbox hb; have n0_ := Aside0.mk (blk_below (g := gb231) (o := .cells #[.int .i64 a0_0, .slice A0_1 l0_1.length c0_1, .slice (some ad236) l0_2.length c0_2] 25 (0, 0)) (by (with_reducible repeat (first | refine blk_drewN ?_ _ | refine blk_drew ?_ | refine blk_alloc ?_ _)); exact BK231.out) hb); have n1_ := Aside0.mk (below_step (by repeat (first | (with_reducible first | exact HB.out | apply below_alloc | apply pw_below_drewN | apply below_drew1 | refine below_set ?_ GE231.out) | exact HB.out)) hb); have n2_ := Aside0.mk (hbox); have n3_ := Aside0.mk ((by rw [hg]; exact (below_size (by repeat (first | (with_reducible first | exact HB.out | apply below_alloc | apply pw_below_drewN | apply below_drew1 | refine below_set ?_ GE231.out) | exact HB.out))) : w.heap.size ≤ gb237)); have n4_ := Aside0.mk ((by rw [hg]; exact (below_size (by repeat (first | (with_reducible first | exact HB.out | apply below_alloc | apply pw_below_drewN | apply below_drew1 | refine below_set ?_ GE231.out) | exact HB.out))) : w.heap.size ≤ gb237)); have n5_ := Aside0.mk ((by rw [hg]; exact Nat.ne_of_lt (blk_lt (g := gb231) (o := .cells #[.int .i64 a0_0, .slice A0_1 l0_1.length c0_1, .slice (some ad236) l0_2.length c0_2] 25 (0, 0)) (by (with_reducible repeat (first | refine blk_drewN ?_ _ | refine blk_drew ?_ | refine blk_alloc ?_ _)); exact BK231.out)) : gb231 ≠ gb237)); have n6_ := Aside0.mk ((by rw [hg]; exact Nat.ne_of_gt (blk_lt (g := gb231) (o := .cells #[.int .i64 a0_0, .slice A0_1 l0_1.length c0_1, .slice (some ad236) l0_2.length c0_2] 25 (0, 0)) (by (with_reducible repeat (first | refine blk_drewN ?_ _ | refine blk_drew ?_ | refine blk_alloc ?_ _)); exact BK231.out)) : gb237 ≠ gb231)); clear BK231; clear HB; have BK231 := n0_; have HB := n1_; have BK237 := n2_; have GW237 := n3_; have GE237 := n4_; have NB231_237 := n5_; have NB237_231 := n6_; clear n0_ n1_ n2_ n3_ n4_ n5_ n6_; clear hb hbox hg; have hnb36 := NB237_231.out; have hnc36 := NB231_237.out; have hcz37_0 : w35.cell? ⟨gb237, 0, none⟩ = some (.bool false) := (blk_cell BK237.out 0).trans rfl; have hcz37_1 : w35.cell? ⟨gb237, 1, none⟩ = some (.slice none 0 0) := (blk_cell BK237.out 1).trans rfl; have hfz37_0 := blk_frozen BK237.out 0; have hfz37_1 := blk_frozen BK237.out 1))
              repeat (go_quiet (first | ((with_reducible refine gate_dst (N := 5) rfl ?_); refine box_event ?hg (N := 5) ?hd (cs := #[.bool false, .slice none 0 0]) (t := 92) ?hr ?_; (case hd => rfl); (case hg => rfl); (case hr => first | (go_simp; done) | (go_simp; rfl)); intro gb237 hg w35 hbox hb; have n0_ := Aside0.mk (blk_below (g := gb231) (o := .cells #[.int .i64 a0_0, .slice A0_1 l0_1.length c0_1, .slice (some ad236) l0_2.length c0_2] 25 (0, 0)) (by (with_reducible repeat (first | refine blk_drewN ?_ _ | refine blk_drew ?_ | refine blk_alloc ?_ _)); exact BK231.out) hb); have n1_ := Aside0.mk (below_step (by repeat (first | (with_reducible first | exact HB.out | apply below_alloc | apply pw_below_drewN | apply below_drew1 | refine below_set ?_ GE231.out) | exact HB.out)) hb); have n2_ := Aside0.mk (hbox); have n3_ := Aside0.mk ((by rw [hg]; exact (below_size (by repeat (first | (with_reducible first | exact HB.out | apply below_alloc | apply pw_below_drewN | apply below_drew1 | refine below_set ?_ GE231.out) | exact HB.out))) : w.heap.size ≤ gb237)); have n4_ := Aside0.mk ((by rw [hg]; exact (below_size (by repeat (first | (with_reducible first | exact HB.out | apply below_alloc | apply pw_below_drewN | apply below_drew1 | refine below_set ?_ GE231.out) | exact HB.out))) : w.heap.size ≤ gb237)); have n5_ := Aside0.mk ((by rw [hg]; exact Nat.ne_of_lt (blk_lt (g := gb231) (o := .cells #[.int .i64 a0_0, .slice A0_1 l0_1.length c0_1, .slice (some ad236) l0_2.length c0_2] 25 (0, 0)) (by (with_reducible repeat (first | refine blk_drewN ?_ _ | refine blk_drew ?_ | refine blk_alloc ?_ _)); exact BK231.out)) : gb231 ≠ gb237)); have n6_ := Aside0.mk ((by rw [hg]; exact Nat.ne_of_gt (blk_lt (g := gb231) (o := .cells #[.int .i64 a0_0, .slice A0_1 l0_1.length c0_1, .slice (some ad236) l0_2.length c0_2] 25 (0, 0)) (by (with_reducible repeat (first | refine blk_drewN ?_ _ | refine blk_drew ?_ | refine blk_alloc ?_ _)); exact BK231.out)) : gb237 ≠ gb231)); clear BK231; clear HB; have BK231 := n0_; have HB := n1_; have BK237 := n2_; have GW237 := n3_; have GE237 := n4_; have NB231_237 := n5_; have NB237_231 := n6_; clear n0_ n1_ n2_ n3_ n4_ n5_ n6_; clear hb hbox hg; have hnb36 := NB237_231.out; have hnc36 := NB231_237.out; have hcz37_0 : w35.cell? ⟨gb237, 0, none⟩ = some (.bool false) := (blk_cell BK237.out 0).trans rfl; have hcz37_1 : w35.cell? ⟨gb237, 1, none⟩ = some (.slice none 0 0) := (blk_cell BK237.out 1).trans rfl; have hfz37_0 := blk_frozen BK237.out 0; have hfz37_1 := blk_frozen BK237.out 1)); try go_wp2_with (first | ((with_reducible refine gate_dst (N := 5) rfl ?_); refine box_event ?hg (N := 5) ?hd (cs := #[.bool false, .slice none 0 0]) (t := 92) ?hr ?_; (case hd => rfl); (case hg => rfl); (case hr => first | (go_simp; done) | (go_simp; rfl)); intro gb237 hg w35 hbox hb; have n0_ := Aside0.mk (blk_below (g := gb231) (o := .cells #[.int .i64 a0_0, .slice A0_1 l0_1.length c0_1, .slice (some ad236) l0_2.length c0_2] 25 (0, 0)) (by (with_reducible repeat (first | refine blk_drewN ?_ _ | refine blk_drew ?_ | refine blk_alloc ?_ _)); exact BK231.out) hb); have n1_ := Aside0.mk (below_step (by repeat (first | (with_reducible first | exact HB.out | apply below_alloc | apply pw_below_drewN | apply below_drew1 | refine below_set ?_ GE231.out) | exact HB.out)) hb); have n2_ := Aside0.mk (hbox); have n3_ := Aside0.mk ((by rw [hg]; exact (below_size (by repeat (first | (with_reducible first | exact HB.out | apply below_alloc | apply pw_below_drewN | apply below_drew1 | refine below_set ?_ GE231.out) | exact HB.out))) : w.heap.size ≤ gb237)); have n4_ := Aside0.mk ((by rw [hg]; exact (below_size (by repeat (first | (with_reducible first | exact HB.out | apply below_alloc | apply pw_below_drewN | apply below_drew1 | refine below_set ?_ GE231.out) | exact HB.out))) : w.heap.size ≤ gb237)); have n5_ := Aside0.mk ((by rw [hg]; exact Nat.ne_of_lt (blk_lt (g := gb231) (o := .cells #[.int .i64 a0_0, .slice A0_1 l0_1.length c0_1, .slice (some ad236) l0_2.length c0_2] 25 (0, 0)) (by (with_reducible repeat (first | refine blk_drewN ?_ _ | refine blk_drew ?_ | refine blk_alloc ?_ _)); exact BK231.out)) : gb231 ≠ gb237)); have n6_ := Aside0.mk ((by rw [hg]; exact Nat.ne_of_gt (blk_lt (g := gb231) (o := .cells #[.int .i64 a0_0, .slice A0_1 l0_1.length c0_1, .slice (some ad236) l0_2.length c0_2] 25 (0, 0)) (by (with_reducible repeat (first | refine blk_drewN ?_ _ | refine blk_drew ?_ | refine blk_alloc ?_ _)); exact BK231.out)) : gb237 ≠ gb231)); clear BK231; clear HB; have BK231 := n0_; have HB := n1_; have BK237 := n2_; have GW237 := n3_; have GE237 := n4_; have NB231_237 := n5_; have NB237_231 := n6_; clear n0_ n1_ n2_ n3_ n4_ n5_ n6_; clear hb hbox hg; have hnb36 := NB237_231.out; have hnc36 := NB231_237.out; have hcz37_0 : w35.cell? ⟨gb237, 0, none⟩ = some (.bool false) := (blk_cell BK237.out 0).trans rfl; have hcz37_1 : w35.cell? ⟨gb237, 1, none⟩ = some (.slice none 0 0) := (blk_cell BK237.out 1).trans rfl; have hfz37_0 := blk_frozen BK237.out 0; have hfz37_1 := blk_frozen BK237.out 1)))
              go_loopg [6] k3 (fun kq v6 w' => ∃ (x6_4 : Int), v6 = .int .i64 x6_4 ∧ Aside0 (logjamref36_Check.l2 kq x4_3 x6_4 a0_0 l0_1 l0_2 true ((rd_T92 l0_2 x4_3).f1) = some r) ∧ Aside0 (kq ≤ k3) ∧ Aside0 (w'.heap[gb231]? = some (.cells #[.int .i64 a0_0, (.slice A0_1 l0_1.length c0_1), (.slice (some ad236) l0_2.length c0_2)] 25 (0, 0))) ∧ Aside0 (w'.heap[gb237]? = some (.cells #[.bool true, (.slice A236_1 ((rd_T92 l0_2 x4_3).f1).length c236_1)] 92 (0, 0))) ∧ Aside0 (Below w.heap.size w w'))
              case atStart => exact ⟨(0), (by first | rfl | (simp; done) | (simp only [emptyNe_, emptyEq_]; done) | (simp [*]; done)), H', ⟨Nat.le_refl _⟩, ⟨by (with_reducible repeat (first | refine blk_drewN ?_ _ | refine blk_drew ?_ | refine blk_alloc ?_ _)); refine blk_far ?_ NB231_237.out _; (with_reducible repeat (first | refine blk_drewN ?_ _ | refine blk_drew ?_ | refine blk_alloc ?_ _)); refine blk_far ?_ NB231_237.out _; (with_reducible repeat (first | refine blk_drewN ?_ _ | refine blk_drew ?_ | refine blk_alloc ?_ _)); exact BK231.out⟩, ⟨by (with_reducible repeat (first | refine blk_drewN ?_ _ | refine blk_drew ?_ | refine blk_alloc ?_ _)); refine blk_put (cs := #[.bool true, .slice none 0 0]) ?_ 1 _ rfl; (with_reducible repeat (first | refine blk_drewN ?_ _ | refine blk_drew ?_ | refine blk_alloc ?_ _)); refine blk_put (cs := #[.bool false, .slice none 0 0]) ?_ 0 _ rfl; (with_reducible repeat (first | refine blk_drewN ?_ _ | refine blk_drew ?_ | refine blk_alloc ?_ _)); exact BK237.out⟩, ⟨by repeat (first | (with_reducible first | exact HB.out | apply below_alloc | apply pw_below_drewN | apply below_drew1 | refine below_set ?_ GE231.out | refine below_set ?_ GE237.out) | exact HB.out)⟩⟩
              case round =>
               clear H'; try clear c1; try clear c2; try clear p2; try clear q2; try clear hx2; try clear c3; try clear c4; try clear c4b0; try clear p6; try clear c7; try clear c8; try clear c8b0; try clear c8b1; try clear c8b2; try clear c10; try clear c10b0; try clear c11; try clear c11b0; try clear c12; try clear c12b0; try clear c14; try clear c14b0; try clear c16; try clear c16b0; try clear c18; try clear c18b0; try clear c19; try clear c19b0; try clear c20; try clear c20b0; try clear c23; try clear p23; try clear q23; try clear hx23; try clear c25; try clear c25b0; try clear c26; try clear c26b0; try clear q27; try clear c28; try clear c29; try clear c29b0; try clear c29b1; try clear c32; try clear c36; try clear hcz13_0; try clear hcz13_1; try clear hcz13_2; try clear hcz15_0; try clear hcz15_1; try clear hcz15_2; try clear hcz21_0; try clear hcz21_1; try clear hcz21_2; try clear hcz22_0; try clear hcz22_1; try clear hcz22_2; try clear hcz23_0; try clear hcz23_1; try clear hcz23_2; try clear hcz24_0; try clear hcz24_1; try clear hcz24_2; try clear hcz30_0; try clear hcz30_1; try clear hcz30_2; try clear hcz33_0; try clear hcz33_1; try clear hcz34_0; try clear hcz34_1; try clear hcz34_2; try clear hcz37_0; try clear hcz37_1; try clear hcz5_0; try clear hcz5_1; try clear hcz5_2; try clear hcz6_0; try clear hcz6_1; try clear hcz6_2; try clear hcz9_0; try clear hcz9_1; try clear hcz9_2; try clear hfz13_0; try clear hfz13_1; try clear hfz13_2; try clear hfz15_0; try clear hfz15_1; try clear hfz15_2; try clear hfz21_0; try clear hfz21_1; try clear hfz21_2; try clear hfz22_0; try clear hfz22_1; try clear hfz22_2; try clear hfz23_0; try clear hfz23_1; try clear hfz23_2; try clear hfz24_0; try clear hfz24_1; try clear hfz24_2; try clear hfz30_0; try clear hfz30_1; try clear hfz30_2; try clear hfz33_0; try clear hfz33_1; try clear hfz34_0; try clear hfz34_1; try clear hfz34_2; try clear hfz37_0; try clear hfz37_1; try clear hfz5_0; try clear hfz5_1; try clear hfz5_2; try clear hfz6_0; try clear hfz6_1; try clear hfz6_2; try clear hfz9_0; try clear hfz9_1; try clear hfz9_2; try clear hx232_0; try clear hx233_0; try clear hx234_0; try clear hx235_0; try clear hx236_0; try clear hx236_1; try clear p2; try clear p23; try clear p232; try clear p233; try clear p234; try clear p235; try clear p236; try clear p6; try clear q2; try clear q23; try clear q232; try clear q233; try clear q234; try clear q235; try clear q236
               obtain ⟨x6_4, rfl, HA, HK4, BK231, BK237, HB⟩ := hrel
               cases gk with
               | zero => exact absurd HA.out (by simp [logjamref36_Check.l2])
               | succ k4 =>
                have H := HA.out
                clear HA
                simp only [logjamref36_Check.l2] at H
                by_cases c38 : x6_4 < (((rd_T92 l0_2 x4_3).f1).length : Int)
                ·rw [if_pos c38] at H
                 have c38b0 : decide (x6_4 < (((rd_T92 l0_2 x4_3).f1).length : Int)) = true := decide_eq_true c38
                 clear c38
                 by_cases c39 : 0 ≤ x6_4
                 ·rw [if_pos c39] at H
                  have c39b0 : decide (0 ≤ x6_4) = true := decide_eq_true c39
                  clear c39
                  by_cases c40 : ((rd_L7 ((rd_T92 l0_2 x4_3).f1) x6_4).length : Int) > 256
                  ·rw [if_pos c40] at H
                   have c40b0 : decide (256 < ((rd_L7 ((rd_T92 l0_2 x4_3).f1) x6_4).length : Int)) = true := decide_eq_true c40
                   have c40b1 : decide (256 < (rd_L7 ((rd_T92 l0_2 x4_3).f1) x6_4).length) = true := decide_eq_true (by omega)
                   clear c40
                   obtain rfl := Option.some.inj H
                   have hnb41 := NB237_231.out
                   have hnc41 := NB231_237.out
                   have hcz42_0 : wr.cell? ⟨gb237, 0, none⟩ = some (.bool true) := (blk_cell BK237.out 0).trans rfl
                   have hcz42_1 : wr.cell? ⟨gb237, 1, none⟩ = some (.slice A236_1 ((rd_T92 l0_2 x4_3).f1).length c236_1) := (blk_cell BK237.out 1).trans rfl
                   have hfz42_0 := blk_frozen BK237.out 0
                   have hfz42_1 := blk_frozen BK237.out 1
                   have p238 : 0 ≤ (x6_4 : Int) := of_decide_eq_true (by first | (with_reducible assumption) | assumption)
                   have q238 : x6_4 < (((rd_T92 l0_2 x4_3).f1).length : Int) := of_decide_eq_true (by first | (with_reducible assumption) | assumption)
                   obtain ⟨ad238, A238_0, c238_0, e238, hx238_0, hl238_0, hi238_0⟩ := at_L7 HR236_1.out x6_4 p238 q238
                   cases e238
                   replace hx238_0 := (HB.out.cell (World.block_lt_of_cell? w _ hx238_0)).trans hx238_0
                   have HR238_0 := Aside0.mk hi238_0
                   have HC238_0 := Aside0.mk hl238_0
                   clear hi238_0 hl238_0
                   replace p238 := eq_true p238
                   replace q238 := eq_true q238
                   go_wp2
                   repeat (go_quiet (fail); try go_wp2)
                   go_ret
                   exact ⟨by first | rfl | (simp [errW_none, errW_some] <;> rfl) | (simp [*, errW_none, errW_some] <;> rfl), by repeat (first | (with_reducible first | exact HB.out | apply below_alloc | apply pw_below_drewN | apply below_drew1 | refine below_set ?_ GE231.out | refine below_set ?_ GE237.out) | exact HB.out)⟩
                  ·rw [if_neg c40] at H
                   have c40b0 : decide (256 < ((rd_L7 ((rd_T92 l0_2 x4_3).f1) x6_4).length : Int)) = false := decide_eq_false c40
                   have c40b1 : decide (256 < (rd_L7 ((rd_T92 l0_2 x4_3).f1) x6_4).length) = false := decide_eq_false (by omega)
                   clear c40
                   have H' := Aside0.mk H
                   clear H
                   have hnb43 := NB237_231.out
                   have hnc43 := NB231_237.out
                   have hcz44_0 : wr.cell? ⟨gb237, 0, none⟩ = some (.bool true) := (blk_cell BK237.out 0).trans rfl
                   have hcz44_1 : wr.cell? ⟨gb237, 1, none⟩ = some (.slice A236_1 ((rd_T92 l0_2 x4_3).f1).length c236_1) := (blk_cell BK237.out 1).trans rfl
                   have hfz44_0 := blk_frozen BK237.out 0
                   have hfz44_1 := blk_frozen BK237.out 1
                   have p238 : 0 ≤ (x6_4 : Int) := of_decide_eq_true (by first | (with_reducible assumption) | assumption)
                   have q238 : x6_4 < (((rd_T92 l0_2 x4_3).f1).length : Int) := of_decide_eq_true (by first | (with_reducible assumption) | assumption)
                   obtain ⟨ad238, A238_0, c238_0, e238, hx238_0, hl238_0, hi238_0⟩ := at_L7 HR236_1.out x6_4 p238 q238
                   cases e238
                   replace hx238_0 := (HB.out.cell (World.block_lt_of_cell? w _ hx238_0)).trans hx238_0
                   have HR238_0 := Aside0.mk hi238_0
                   have HC238_0 := Aside0.mk hl238_0
                   clear hi238_0 hl238_0
                   replace p238 := eq_true p238
                   replace q238 := eq_true q238
                   go_wp2
                   repeat (go_quiet (fail); try go_wp2)
                   go_loopg [7] k4 (fun kq v7 w' => ∃ (x7_5 : Int), v7 = .int .i64 x7_5 ∧ Aside0 (logjamref36_Check.l3 kq x4_3 x6_4 x7_5 a0_0 l0_1 l0_2 true ((rd_T92 l0_2 x4_3).f1) = some r) ∧ Aside0 (kq ≤ k4) ∧ Aside0 (w'.heap[gb231]? = some (.cells #[.int .i64 a0_0, (.slice A0_1 l0_1.length c0_1), (.slice (some ad236) l0_2.length c0_2)] 25 (0, 0))) ∧ Aside0 (w'.heap[gb237]? = some (.cells #[.bool true, (.slice (some ad238) ((rd_T92 l0_2 x4_3).f1).length c236_1)] 92 (0, 0))) ∧ Aside0 (Below w.heap.size w w'))
                   case atStart => exact ⟨(0), (by first | rfl | (simp; done) | (simp only [emptyNe_, emptyEq_]; done) | (simp [*]; done)), H', ⟨Nat.le_refl _⟩, ⟨by (with_reducible repeat (first | refine blk_drewN ?_ _ | refine blk_drew ?_ | refine blk_alloc ?_ _)); exact BK231.out⟩, ⟨by (with_reducible repeat (first | refine blk_drewN ?_ _ | refine blk_drew ?_ | refine blk_alloc ?_ _)); exact BK237.out⟩, ⟨by repeat (first | (with_reducible first | exact HB.out | apply below_alloc | apply pw_below_drewN | apply below_drew1 | refine below_set ?_ GE231.out | refine below_set ?_ GE237.out) | exact HB.out)⟩⟩
                   case round =>
                    clear H'; try clear c1; try clear c2; try clear p2; try clear q2; try clear hx2; try clear c3; try clear c4; try clear c4b0; try clear p6; try clear c7; try clear c8; try clear c8b0; try clear c8b1; try clear c8b2; try clear c10; try clear c10b0; try clear c11; try clear c11b0; try clear c12; try clear c12b0; try clear c14; try clear c14b0; try clear c16; try clear c16b0; try clear c18; try clear c18b0; try clear c19; try clear c19b0; try clear c20; try clear c20b0; try clear c23; try clear p23; try clear q23; try clear hx23; try clear c25; try clear c25b0; try clear c26; try clear c26b0; try clear q27; try clear c28; try clear c29; try clear c29b0; try clear c29b1; try clear c32; try clear c36; try clear c38; try clear c38b0; try clear c39; try clear c39b0; try clear c40; try clear c40b0; try clear c40b1; try clear c41; try clear c43; try clear hcz13_0; try clear hcz13_1; try clear hcz13_2; try clear hcz15_0; try clear hcz15_1; try clear hcz15_2; try clear hcz21_0; try clear hcz21_1; try clear hcz21_2; try clear hcz22_0; try clear hcz22_1; try clear hcz22_2; try clear hcz23_0; try clear hcz23_1; try clear hcz23_2; try clear hcz24_0; try clear hcz24_1; try clear hcz24_2; try clear hcz30_0; try clear hcz30_1; try clear hcz30_2; try clear hcz33_0; try clear hcz33_1; try clear hcz34_0; try clear hcz34_1; try clear hcz34_2; try clear hcz37_0; try clear hcz37_1; try clear hcz42_0; try clear hcz42_1; try clear hcz44_0; try clear hcz44_1; try clear hcz5_0; try clear hcz5_1; try clear hcz5_2; try clear hcz6_0; try clear hcz6_1; try clear hcz6_2; try clear hcz9_0; try clear hcz9_1; try clear hcz9_2; try clear hfz13_0; try clear hfz13_1; try clear hfz13_2; try clear hfz15_0; try clear hfz15_1; try clear hfz15_2; try clear hfz21_0; try clear hfz21_1; try clear hfz21_2; try clear hfz22_0; try clear hfz22_1; try clear hfz22_2; try clear hfz23_0; try clear hfz23_1; try clear hfz23_2; try clear hfz24_0; try clear hfz24_1; try clear hfz24_2; try clear hfz30_0; try clear hfz30_1; try clear hfz30_2; try clear hfz33_0; try clear hfz33_1; try clear hfz34_0; try clear hfz34_1; try clear hfz34_2; try clear hfz37_0; try clear hfz37_1; try clear hfz42_0; try clear hfz42_1; try clear hfz44_0; try clear hfz44_1; try clear hfz5_0; try clear hfz5_1; try clear hfz5_2; try clear hfz6_0; try clear hfz6_1; try clear hfz6_2; try clear hfz9_0; try clear hfz9_1; try clear hfz9_2; try clear hx232_0; try clear hx233_0; try clear hx234_0; try clear hx235_0; try clear hx236_0; try clear hx236_1; try clear hx238_0; try clear p2; try clear p23; try clear p232; try clear p233; try clear p234; try clear p235; try clear p236; try clear p238; try clear p6; try clear q2; try clear q23; try clear q232; try clear q233; try clear q234; try clear q235; try clear q236; try clear q238; try clear q27
                    obtain ⟨x7_5, rfl, HA, HK5, BK231, BK237, HB⟩ := hrel
                    cases gk with
                    | zero => exact absurd HA.out (by simp [logjamref36_Check.l3])
                    | succ k5 =>
                     have H := HA.out
                     clear HA
                     simp only [logjamref36_Check.l3] at H
                     by_cases c45 : 0 ≤ x6_4
                     ·rw [if_pos c45] at H
                      have c45b0 : decide (0 ≤ x6_4) = true := decide_eq_true c45
                      clear c45
                      by_cases c46 : x6_4 < (((rd_T92 l0_2 x4_3).f1).length : Int)
                      ·rw [if_pos c46] at H
                       have c46b0 : decide (x6_4 < (((rd_T92 l0_2 x4_3).f1).length : Int)) = true := decide_eq_true c46
                       clear c46
                       by_cases c47 : x7_5 < ((rd_L7 ((rd_T92 l0_2 x4_3).f1) x6_4).length : Int)
                       ·rw [if_pos c47] at H
                        have c47b0 : decide (x7_5 < ((rd_L7 ((rd_T92 l0_2 x4_3).f1) x6_4).length : Int)) = true := decide_eq_true c47
                        clear c47
                        by_cases c48 : 0 ≤ x7_5
                        ·rw [if_pos c48] at H
                         have c48b0 : decide (0 ≤ x7_5) = true := decide_eq_true c48
                         clear c48
                         replace H := Option.bind_eq_some_iff.mp H
                         obtain ⟨t242, A490, H⟩ := H
                         replace H : (if t242 = 0 then (logjamref36_Check.l3 k5 x4_3 x6_4 (wrap64 (x7_5 + 1)) a0_0 l0_1 l0_2 true ((rd_T92 l0_2 x4_3).f1)) else (some t242)) = some r := H
                         have A49 := Aside0.mk A490
                         clear A490
                         by_cases c50 : t242 = 0
                         ·rw [if_pos c50] at H
                          have c50b0 : (t242 == 0) = true := beq_iff_eq.mpr c50
                          have c50b1 : (t242 != 0) = false := bne_eq_false_iff_eq.mpr c50
                          clear c50
                          have H' := Aside0.mk H
                          clear H
                          have hnb51 := NB237_231.out
                          have hnc51 := NB231_237.out
                          have hcz52_0 : wr.cell? ⟨gb237, 0, none⟩ = some (.bool true) := (blk_cell BK237.out 0).trans rfl
                          have hcz52_1 : wr.cell? ⟨gb237, 1, none⟩ = some (.slice (some ad238) ((rd_T92 l0_2 x4_3).f1).length c236_1) := (blk_cell BK237.out 1).trans rfl
                          have hfz52_0 := blk_frozen BK237.out 0
                          have hfz52_1 := blk_frozen BK237.out 1
                          have p239 : 0 ≤ (x6_4 : Int) := of_decide_eq_true (by first | (with_reducible assumption) | assumption)
                          have q239 : x6_4 < (((rd_T92 l0_2 x4_3).f1).length : Int) := of_decide_eq_true (by first | (with_reducible assumption) | assumption)
                          obtain ⟨ad239, A239_0, c239_0, e239, hx239_0, hl239_0, hi239_0⟩ := at_L7 HR236_1.out x6_4 p239 q239
                          obtain rfl : ad238 = ad239 := (by injection e239)
                          replace hx239_0 := (HB.out.cell (World.block_lt_of_cell? w _ hx239_0)).trans hx239_0
                          have HR239_0 := Aside0.mk hi239_0
                          have HC239_0 := Aside0.mk hl239_0
                          clear hi239_0 hl239_0
                          replace p239 := eq_true p239
                          replace q239 := eq_true q239
                          have p240 : 0 ≤ (x6_4 : Int) := of_decide_eq_true (by first | (with_reducible assumption) | assumption)
                          have q240 : x6_4 < (((rd_T92 l0_2 x4_3).f1).length : Int) := of_decide_eq_true (by first | (with_reducible assumption) | assumption)
                          obtain ⟨ad240, A240_0, c240_0, e240, hx240_0, hl240_0, hi240_0⟩ := at_L7 HR236_1.out x6_4 p240 q240
                          obtain rfl : ad238 = ad240 := (by injection e240)
                          replace hx240_0 := (HB.out.cell (World.block_lt_of_cell? w _ hx240_0)).trans hx240_0
                          have HR240_0 := Aside0.mk hi240_0
                          have HC240_0 := Aside0.mk hl240_0
                          clear hi240_0 hl240_0
                          replace p240 := eq_true p240
                          replace q240 := eq_true q240
                          have ea_ := Option.some.inj (hx239_0.symm.trans hx240_0)
                          injection ea_ with ea_ en_ ec_
                          subst ea_
                          subst ec_
                          clear en_
                          have p241 : 0 ≤ (x7_5 : Int) := of_decide_eq_true (by first | (with_reducible assumption) | assumption)
                          have q241 : x7_5 < ((rd_L7 ((rd_T92 l0_2 x4_3).f1) x6_4).length : Int) := of_decide_eq_true (by first | (with_reducible assumption) | assumption)
                          obtain ⟨ad241, A241_1, c241_1, e241, hx241_0, hx241_1, hl241_1, hi241_1⟩ := at_T96 HR240_0.out x7_5 p241 q241
                          cases e241
                          replace hx241_0 := (HB.out.cell (World.block_lt_of_cell? w _ hx241_0)).trans hx241_0
                          replace hx241_1 := (HB.out.cell (World.block_lt_of_cell? w _ hx241_1)).trans hx241_1
                          have HR241_1 := Aside0.mk hi241_1
                          have HC241_1 := Aside0.mk hl241_1
                          clear hi241_1 hl241_1
                          replace p241 := eq_true p241
                          replace q241 := eq_true q241
                          go_wp2_with (first | (go_at_call 80; (with_reducible refine (logjamref36_term.calls k5 ((rd_T96 (rd_L7 ((rd_T92 l0_2 x4_3).f1) x6_4) x7_5).f0) _ _ ((rd_T96 (rd_L7 ((rd_T92 l0_2 x4_3).f1) x6_4) x7_5).f1) t242 _ ?side1 ?side2 A49.out).mono ?_); (case side1 => repeat (first | exact (Kd.C_below HR241_1.out HB.out) | (with_reducible refine Kd.C_alloc ?_ _) | (with_reducible refine Kd.C_drewN ?_ _) | (with_reducible refine Kd.C_drew ?_))); (case side2 => exact HC241_1.out); rintro e w53 ⟨rfl, hb⟩; have n0_ := Aside0.mk (blk_below (g := gb231) (o := .cells #[.int .i64 a0_0, .slice A0_1 l0_1.length c0_1, .slice (some ad236) l0_2.length c0_2] 25 (0, 0)) (by (with_reducible repeat (first | refine blk_drewN ?_ _ | refine blk_drew ?_ | refine blk_alloc ?_ _)); exact BK231.out) hb); have n1_ := Aside0.mk (blk_below (g := gb237) (o := .cells #[.bool true, .slice (some ad238) ((rd_T92 l0_2 x4_3).f1).length c236_1] 92 (0, 0)) (by (with_reducible repeat (first | refine blk_drewN ?_ _ | refine blk_drew ?_ | refine blk_alloc ?_ _)); exact BK237.out) hb); have n2_ := Aside0.mk (below_step (by repeat (first | (with_reducible first | exact HB.out | apply below_alloc | apply pw_below_drewN | apply below_drew1 | refine below_set ?_ GE231.out | refine below_set ?_ GE237.out) | exact HB.out)) hb); clear BK231; clear BK237; clear HB; have BK231 := n0_; have BK237 := n1_; have HB := n2_; clear n0_ n1_ n2_; (try clear hb); (try clear hb2); (try clear hk); (try clear hi)))
                          repeat (go_quiet (first | (go_at_call 80; (with_reducible refine (logjamref36_term.calls k5 ((rd_T96 (rd_L7 ((rd_T92 l0_2 x4_3).f1) x6_4) x7_5).f0) _ _ ((rd_T96 (rd_L7 ((rd_T92 l0_2 x4_3).f1) x6_4) x7_5).f1) t242 _ ?side1 ?side2 A49.out).mono ?_); (case side1 => repeat (first | exact (Kd.C_below HR241_1.out HB.out) | (with_reducible refine Kd.C_alloc ?_ _) | (with_reducible refine Kd.C_drewN ?_ _) | (with_reducible refine Kd.C_drew ?_))); (case side2 => exact HC241_1.out); rintro e w53 ⟨rfl, hb⟩; have n0_ := Aside0.mk (blk_below (g := gb231) (o := .cells #[.int .i64 a0_0, .slice A0_1 l0_1.length c0_1, .slice (some ad236) l0_2.length c0_2] 25 (0, 0)) (by (with_reducible repeat (first | refine blk_drewN ?_ _ | refine blk_drew ?_ | refine blk_alloc ?_ _)); exact BK231.out) hb); have n1_ := Aside0.mk (blk_below (g := gb237) (o := .cells #[.bool true, .slice (some ad238) ((rd_T92 l0_2 x4_3).f1).length c236_1] 92 (0, 0)) (by (with_reducible repeat (first | refine blk_drewN ?_ _ | refine blk_drew ?_ | refine blk_alloc ?_ _)); exact BK237.out) hb); have n2_ := Aside0.mk (below_step (by repeat (first | (with_reducible first | exact HB.out | apply below_alloc | apply pw_below_drewN | apply below_drew1 | refine below_set ?_ GE231.out | refine below_set ?_ GE237.out) | exact HB.out)) hb); clear BK231; clear BK237; clear HB; have BK231 := n0_; have BK237 := n1_; have HB := n2_; clear n0_ n1_ n2_; (try clear hb); (try clear hb2); (try clear hk); (try clear hi))); try go_wp2_with (first | (go_at_call 80; (with_reducible refine (logjamref36_term.calls k5 ((rd_T96 (rd_L7 ((rd_T92 l0_2 x4_3).f1) x6_4) x7_5).f0) _ _ ((rd_T96 (rd_L7 ((rd_T92 l0_2 x4_3).f1) x6_4) x7_5).f1) t242 _ ?side1 ?side2 A49.out).mono ?_); (case side1 => repeat (first | exact (Kd.C_below HR241_1.out HB.out) | (with_reducible refine Kd.C_alloc ?_ _) | (with_reducible refine Kd.C_drewN ?_ _) | (with_reducible refine Kd.C_drew ?_))); (case side2 => exact HC241_1.out); rintro e w53 ⟨rfl, hb⟩; have n0_ := Aside0.mk (blk_below (g := gb231) (o := .cells #[.int .i64 a0_0, .slice A0_1 l0_1.length c0_1, .slice (some ad236) l0_2.length c0_2] 25 (0, 0)) (by (with_reducible repeat (first | refine blk_drewN ?_ _ | refine blk_drew ?_ | refine blk_alloc ?_ _)); exact BK231.out) hb); have n1_ := Aside0.mk (blk_below (g := gb237) (o := .cells #[.bool true, .slice (some ad238) ((rd_T92 l0_2 x4_3).f1).length c236_1] 92 (0, 0)) (by (with_reducible repeat (first | refine blk_drewN ?_ _ | refine blk_drew ?_ | refine blk_alloc ?_ _)); exact BK237.out) hb); have n2_ := Aside0.mk (below_step (by repeat (first | (with_reducible first | exact HB.out | apply below_alloc | apply pw_below_drewN | apply below_drew1 | refine below_set ?_ GE231.out | refine below_set ?_ GE237.out) | exact HB.out)) hb); clear BK231; clear BK237; clear HB; have BK231 := n0_; have BK237 := n1_; have HB := n2_; clear n0_ n1_ n2_; (try clear hb); (try clear hb2); (try clear hk); (try clear hi))))
                          go_roundg k5
                          case measure => have := HJ1.out; have := HK2.out; have := HK3.out; have := HK4.out; have := HK5.out; omega
                          case rel => exact ⟨(wrap64 (x7_5 + 1)), (by first | rfl | (simp; done) | (simp only [emptyNe_, emptyEq_]; done) | (simp [*]; done)), H', ⟨by have := HJ1.out; have := HK2.out; have := HK3.out; have := HK4.out; have := HK5.out; omega⟩, ⟨by (with_reducible repeat (first | refine blk_drewN ?_ _ | refine blk_drew ?_ | refine blk_alloc ?_ _)); exact BK231.out⟩, ⟨by (with_reducible repeat (first | refine blk_drewN ?_ _ | refine blk_drew ?_ | refine blk_alloc ?_ _)); exact BK237.out⟩, ⟨by repeat (first | (with_reducible first | exact HB.out | apply below_alloc | apply pw_below_drewN | apply below_drew1 | refine below_set ?_ GE231.out | refine below_set ?_ GE237.out) | exact HB.out)⟩⟩
                         ·rw [if_neg c50] at H
                          have c50b0 : (t242 == 0) = false := beq_eq_false_iff_ne.mpr c50
                          have c50b1 : (t242 != 0) = true := bne_iff_ne.mpr c50
                          obtain rfl := Option.some.inj H
                          have hnb54 := NB237_231.out
                          have hnc54 := NB231_237.out
                          have hcz55_0 : wr.cell? ⟨gb237, 0, none⟩ = some (.bool true) := (blk_cell BK237.out 0).trans rfl
                          have hcz55_1 : wr.cell? ⟨gb237, 1, none⟩ = some (.slice (some ad238) ((rd_T92 l0_2 x4_3).f1).length c236_1) := (blk_cell BK237.out 1).trans rfl
                          have hfz55_0 := blk_frozen BK237.out 0
                          have hfz55_1 := blk_frozen BK237.out 1
                          have p239 : 0 ≤ (x6_4 : Int) := of_decide_eq_true (by first | (with_reducible assumption) | assumption)
                          have q239 : x6_4 < (((rd_T92 l0_2 x4_3).f1).length : Int) := of_decide_eq_true (by first | (with_reducible assumption) | assumption)
                          obtain ⟨ad239, A239_0, c239_0, e239, hx239_0, hl239_0, hi239_0⟩ := at_L7 HR236_1.out x6_4 p239 q239
                          obtain rfl : ad238 = ad239 := (by injection e239)
                          replace hx239_0 := (HB.out.cell (World.block_lt_of_cell? w _ hx239_0)).trans hx239_0
                          have HR239_0 := Aside0.mk hi239_0
                          have HC239_0 := Aside0.mk hl239_0
                          clear hi239_0 hl239_0
                          replace p239 := eq_true p239
                          replace q239 := eq_true q239
                          have p240 : 0 ≤ (x6_4 : Int) := of_decide_eq_true (by first | (with_reducible assumption) | assumption)
                          have q240 : x6_4 < (((rd_T92 l0_2 x4_3).f1).length : Int) := of_decide_eq_true (by first | (with_reducible assumption) | assumption)
                          obtain ⟨ad240, A240_0, c240_0, e240, hx240_0, hl240_0, hi240_0⟩ := at_L7 HR236_1.out x6_4 p240 q240
                          obtain rfl : ad238 = ad240 := (by injection e240)
                          replace hx240_0 := (HB.out.cell (World.block_lt_of_cell? w _ hx240_0)).trans hx240_0
                          have HR240_0 := Aside0.mk hi240_0
                          have HC240_0 := Aside0.mk hl240_0
                          clear hi240_0 hl240_0
                          replace p240 := eq_true p240
                          replace q240 := eq_true q240
                          have ea_ := Option.some.inj (hx239_0.symm.trans hx240_0)
                          injection ea_ with ea_ en_ ec_
                          subst ea_
                          subst ec_
                          clear en_
                          have p241 : 0 ≤ (x7_5 : Int) := of_decide_eq_true (by first | (with_reducible assumption) | assumption)
                          have q241 : x7_5 < ((rd_L7 ((rd_T92 l0_2 x4_3).f1) x6_4).length : Int) := of_decide_eq_true (by first | (with_reducible assumption) | assumption)
                          obtain ⟨ad241, A241_1, c241_1, e241, hx241_0, hx241_1, hl241_1, hi241_1⟩ := at_T96 HR240_0.out x7_5 p241 q241
                          cases e241
                          replace hx241_0 := (HB.out.cell (World.block_lt_of_cell? w _ hx241_0)).trans hx241_0
                          replace hx241_1 := (HB.out.cell (World.block_lt_of_cell? w _ hx241_1)).trans hx241_1
                          have HR241_1 := Aside0.mk hi241_1
                          have HC241_1 := Aside0.mk hl241_1
                          clear hi241_1 hl241_1
                          replace p241 := eq_true p241
                          replace q241 := eq_true q241
                          go_wp2_with (first | (go_at_call 80; (with_reducible refine (logjamref36_term.calls k5 ((rd_T96 (rd_L7 ((rd_T92 l0_2 x4_3).f1) x6_4) x7_5).f0) _ _ ((rd_T96 (rd_L7 ((rd_T92 l0_2 x4_3).f1) x6_4) x7_5).f1) t242 _ ?side1 ?side2 A49.out).mono ?_); (case side1 => repeat (first | exact (Kd.C_below HR241_1.out HB.out) | (with_reducible refine Kd.C_alloc ?_ _) | (with_reducible refine Kd.C_drewN ?_ _) | (with_reducible refine Kd.C_drew ?_))); (case side2 => exact HC241_1.out); rintro e w56 ⟨rfl, hb⟩; have n0_ := Aside0.mk (blk_below (g := gb231) (o := .cells #[.int .i64 a0_0, .slice A0_1 l0_1.length c0_1, .slice (some ad236) l0_2.length c0_2] 25 (0, 0)) (by (with_reducible repeat (first | refine blk_drewN ?_ _ | refine blk_drew ?_ | refine blk_alloc ?_ _)); exact BK231.out) hb); have n1_ := Aside0.mk (blk_below (g := gb237) (o := .cells #[.bool true, .slice (some ad238) ((rd_T92 l0_2 x4_3).f1).length c236_1] 92 (0, 0)) (by (with_reducible repeat (first | refine blk_drewN ?_ _ | refine blk_drew ?_ | refine blk_alloc ?_ _)); exact BK237.out) hb); have n2_ := Aside0.mk (below_step (by repeat (first | (with_reducible first | exact HB.out | apply below_alloc | apply pw_below_drewN | apply below_drew1 | refine below_set ?_ GE231.out | refine below_set ?_ GE237.out) | exact HB.out)) hb); clear BK231; clear BK237; clear HB; have BK231 := n0_; have BK237 := n1_; have HB := n2_; clear n0_ n1_ n2_; (try clear hb); (try clear hb2); (try clear hk); (try clear hi)))
                          repeat (go_quiet (first | (go_at_call 80; (with_reducible refine (logjamref36_term.calls k5 ((rd_T96 (rd_L7 ((rd_T92 l0_2 x4_3).f1) x6_4) x7_5).f0) _ _ ((rd_T96 (rd_L7 ((rd_T92 l0_2 x4_3).f1) x6_4) x7_5).f1) t242 _ ?side1 ?side2 A49.out).mono ?_); (case side1 => repeat (first | exact (Kd.C_below HR241_1.out HB.out) | (with_reducible refine Kd.C_alloc ?_ _) | (with_reducible refine Kd.C_drewN ?_ _) | (with_reducible refine Kd.C_drew ?_))); (case side2 => exact HC241_1.out); rintro e w56 ⟨rfl, hb⟩; have n0_ := Aside0.mk (blk_below (g := gb231) (o := .cells #[.int .i64 a0_0, .slice A0_1 l0_1.length c0_1, .slice (some ad236) l0_2.length c0_2] 25 (0, 0)) (by (with_reducible repeat (first | refine blk_drewN ?_ _ | refine blk_drew ?_ | refine blk_alloc ?_ _)); exact BK231.out) hb); have n1_ := Aside0.mk (blk_below (g := gb237) (o := .cells #[.bool true, .slice (some ad238) ((rd_T92 l0_2 x4_3).f1).length c236_1] 92 (0, 0)) (by (with_reducible repeat (first | refine blk_drewN ?_ _ | refine blk_drew ?_ | refine blk_alloc ?_ _)); exact BK237.out) hb); have n2_ := Aside0.mk (below_step (by repeat (first | (with_reducible first | exact HB.out | apply below_alloc | apply pw_below_drewN | apply below_drew1 | refine below_set ?_ GE231.out | refine below_set ?_ GE237.out) | exact HB.out)) hb); clear BK231; clear BK237; clear HB; have BK231 := n0_; have BK237 := n1_; have HB := n2_; clear n0_ n1_ n2_; (try clear hb); (try clear hb2); (try clear hk); (try clear hi))); try go_wp2_with (first | (go_at_call 80; (with_reducible refine (logjamref36_term.calls k5 ((rd_T96 (rd_L7 ((rd_T92 l0_2 x4_3).f1) x6_4) x7_5).f0) _ _ ((rd_T96 (rd_L7 ((rd_T92 l0_2 x4_3).f1) x6_4) x7_5).f1) t242 _ ?side1 ?side2 A49.out).mono ?_); (case side1 => repeat (first | exact (Kd.C_below HR241_1.out HB.out) | (with_reducible refine Kd.C_alloc ?_ _) | (with_reducible refine Kd.C_drewN ?_ _) | (with_reducible refine Kd.C_drew ?_))); (case side2 => exact HC241_1.out); rintro e w56 ⟨rfl, hb⟩; have n0_ := Aside0.mk (blk_below (g := gb231) (o := .cells #[.int .i64 a0_0, .slice A0_1 l0_1.length c0_1, .slice (some ad236) l0_2.length c0_2] 25 (0, 0)) (by (with_reducible repeat (first | refine blk_drewN ?_ _ | refine blk_drew ?_ | refine blk_alloc ?_ _)); exact BK231.out) hb); have n1_ := Aside0.mk (blk_below (g := gb237) (o := .cells #[.bool true, .slice (some ad238) ((rd_T92 l0_2 x4_3).f1).length c236_1] 92 (0, 0)) (by (with_reducible repeat (first | refine blk_drewN ?_ _ | refine blk_drew ?_ | refine blk_alloc ?_ _)); exact BK237.out) hb); have n2_ := Aside0.mk (below_step (by repeat (first | (with_reducible first | exact HB.out | apply below_alloc | apply pw_below_drewN | apply below_drew1 | refine below_set ?_ GE231.out | refine below_set ?_ GE237.out) | exact HB.out)) hb); clear BK231; clear BK237; clear HB; have BK231 := n0_; have BK237 := n1_; have HB := n2_; clear n0_ n1_ n2_; (try clear hb); (try clear hb2); (try clear hk); (try clear hi))))
                          go_ret
                          exact ⟨by first | rfl | (simp [errW_none, errW_some] <;> rfl) | (simp [*, errW_none, errW_some] <;> rfl), by repeat (first | (with_reducible first | exact HB.out | apply below_alloc | apply pw_below_drewN | apply below_drew1 | refine below_set ?_ GE231.out | refine below_set ?_ GE237.out) | exact HB.out)⟩
                        ·rw [if_neg c48] at H
                         exact absurd H (by simp)
                       ·rw [if_neg c47] at H
                        have c47b0 : decide (x7_5 < ((rd_L7 ((rd_T92 l0_2 x4_3).f1) x6_4).length : Int)) = false := decide_eq_false c47
                        clear c47
                        have H' := Aside0.mk H
                        clear H
                        have hnb57 := NB237_231.out
                        have hnc57 := NB231_237.out
                        have hcz58_0 : wr.cell? ⟨gb237, 0, none⟩ = some (.bool true) := (blk_cell BK237.out 0).trans rfl
                        have hcz58_1 : wr.cell? ⟨gb237, 1, none⟩ = some (.slice (some ad238) ((rd_T92 l0_2 x4_3).f1).length c236_1) := (blk_cell BK237.out 1).trans rfl
                        have hfz58_0 := blk_frozen BK237.out 0
                        have hfz58_1 := blk_frozen BK237.out 1
                        have p239 : 0 ≤ (x6_4 : Int) := of_decide_eq_true (by first | (with_reducible assumption) | assumption)
                        have q239 : x6_4 < (((rd_T92 l0_2 x4_3).f1).length : Int) := of_decide_eq_true (by first | (with_reducible assumption) | assumption)
                        obtain ⟨ad239, A239_0, c239_0, e239, hx239_0, hl239_0, hi239_0⟩ := at_L7 HR236_1.out x6_4 p239 q239
                        obtain rfl : ad238 = ad239 := (by injection e239)
                        replace hx239_0 := (HB.out.cell (World.block_lt_of_cell? w _ hx239_0)).trans hx239_0
                        have HR239_0 := Aside0.mk hi239_0
                        have HC239_0 := Aside0.mk hl239_0
                        clear hi239_0 hl239_0
                        replace p239 := eq_true p239
                        replace q239 := eq_true q239
                        go_wp2
                        repeat (go_quiet (fail); try go_wp2)
                        go_roundg k5
                        case measure => have := HJ1.out; have := HK2.out; have := HK3.out; have := HK4.out; have := HK5.out; omega
                        case rel => exact ⟨(wrap64 (x6_4 + 1)), (by first | rfl | (simp; done) | (simp only [emptyNe_, emptyEq_]; done) | (simp [*]; done)), H', ⟨by have := HJ1.out; have := HK2.out; have := HK3.out; have := HK4.out; have := HK5.out; omega⟩, ⟨by (with_reducible repeat (first | refine blk_drewN ?_ _ | refine blk_drew ?_ | refine blk_alloc ?_ _)); exact BK231.out⟩, ⟨by (with_reducible repeat (first | refine blk_drewN ?_ _ | refine blk_drew ?_ | refine blk_alloc ?_ _)); exact BK237.out⟩, ⟨by repeat (first | (with_reducible first | exact HB.out | apply below_alloc | apply pw_below_drewN | apply below_drew1 | refine below_set ?_ GE231.out | refine below_set ?_ GE237.out) | exact HB.out)⟩⟩
                      ·rw [if_neg c46] at H
                       exact absurd H (by simp)
                     ·rw [if_neg c45] at H
                      exact absurd H (by simp)
                 ·rw [if_neg c39] at H
                  exact absurd H (by simp)
                ·rw [if_neg c38] at H
                 have c38b0 : decide (x6_4 < (((rd_T92 l0_2 x4_3).f1).length : Int)) = false := decide_eq_false c38
                 clear c38
                 have H' := Aside0.mk H
                 clear H
                 have hnb59 := NB237_231.out
                 have hnc59 := NB231_237.out
                 have hcz60_0 : wr.cell? ⟨gb237, 0, none⟩ = some (.bool true) := (blk_cell BK237.out 0).trans rfl
                 have hcz60_1 : wr.cell? ⟨gb237, 1, none⟩ = some (.slice A236_1 ((rd_T92 l0_2 x4_3).f1).length c236_1) := (blk_cell BK237.out 1).trans rfl
                 have hfz60_0 := blk_frozen BK237.out 0
                 have hfz60_1 := blk_frozen BK237.out 1
                 go_wp2
                 repeat (go_quiet (fail); try go_wp2)
                 go_roundg k4
                 case measure => have := HJ1.out; have := HK2.out; have := HK3.out; have := HK4.out; omega
                 case rel => exact ⟨(wrap64 (x4_3 + 1)), (by first | rfl | (simp; done) | (simp only [emptyNe_, emptyEq_]; done) | (simp [*]; done)), H', ⟨by have := HJ1.out; have := HK2.out; have := HK3.out; have := HK4.out; omega⟩, ⟨by (with_reducible repeat (first | refine blk_drewN ?_ _ | refine blk_drew ?_ | refine blk_alloc ?_ _)); exact BK231.out⟩, ⟨by repeat (first | (with_reducible first | exact HB.out | apply below_alloc | apply pw_below_drewN | apply below_drew1 | refine below_set ?_ GE231.out | refine below_set ?_ GE237.out) | exact HB.out)⟩⟩
            ·replace c28 := Bool.eq_false_iff.mpr c28
             subst c28
             have H1 : (some 2) = some r := by rw [if_neg (show ¬ (false = true) by decide)] at H; exact H
             clear H
             have H := H1
             clear H1
             obtain rfl := Option.some.inj H
             have hcz61_0 : wr.cell? ⟨gb231, 0, none⟩ = some (.int .i64 a0_0) := (blk_cell BK231.out 0).trans rfl
             have hcz61_1 : wr.cell? ⟨gb231, 1, none⟩ = some (.slice A0_1 l0_1.length c0_1) := (blk_cell BK231.out 1).trans rfl
             have hcz61_2 : wr.cell? ⟨gb231, 2, none⟩ = some (.slice A0_2 l0_2.length c0_2) := (blk_cell BK231.out 2).trans rfl
             have hfz61_0 := blk_frozen BK231.out 0
             have hfz61_1 := blk_frozen BK231.out 1
             have hfz61_2 := blk_frozen BK231.out 2
             have p236 : 0 ≤ (x4_3 : Int) := of_decide_eq_true (by first | (with_reducible assumption) | assumption)
             have q236 : x4_3 < (l0_2.length : Int) := of_decide_eq_true (by first | (with_reducible assumption) | assumption)
             obtain ⟨ad236, A236_1, c236_1, e236, hx236_0, hx236_1, hl236_1, hi236_1⟩ := at_T92 HR0_2.out x4_3 p236 q236
             (try rw [← Nbq27.out] at hx236_0)
             cases e236
             replace hx236_0 := (HB.out.cell (World.block_lt_of_cell? w _ hx236_0)).trans hx236_0
             replace hx236_1 := (HB.out.cell (World.block_lt_of_cell? w _ hx236_1)).trans hx236_1
             have HR236_1 := Aside0.mk hi236_1
             have HC236_1 := Aside0.mk hl236_1
             clear hi236_1 hl236_1
             replace p236 := eq_true p236
             replace q236 := eq_true q236
             go_wp2_with (first | ((with_reducible refine gate_dst (N := 5) rfl ?_); refine box_event ?hg (N := 5) ?hd (cs := #[.bool false, .slice none 0 0]) (t := 92) ?hr ?_; (case hd => rfl); (case hg => rfl); (case hr => first | (go_simp; done) | (go_simp; rfl)); intro gb237 hg w62 hbox hb; have n0_ := Aside0.mk (blk_below (g := gb231) (o := .cells #[.int .i64 a0_0, .slice A0_1 l0_1.length c0_1, .slice (some ad236) l0_2.length c0_2] 25 (0, 0)) (by (with_reducible repeat (first | refine blk_drewN ?_ _ | refine blk_drew ?_ | refine blk_alloc ?_ _)); exact BK231.out) hb); have n1_ := Aside0.mk (below_step (by repeat (first | (with_reducible first | exact HB.out | apply below_alloc | apply pw_below_drewN | apply below_drew1 | refine below_set ?_ GE231.out) | exact HB.out)) hb); have n2_ := Aside0.mk (hbox); have n3_ := Aside0.mk ((by rw [hg]; exact (below_size (by repeat (first | (with_reducible first | exact HB.out | apply below_alloc | apply pw_below_drewN | apply below_drew1 | refine below_set ?_ GE231.out) | exact HB.out))) : w.heap.size ≤ gb237)); have n4_ := Aside0.mk ((by rw [hg]; exact (below_size (by repeat (first | (with_reducible first | exact HB.out | apply below_alloc | apply pw_below_drewN | apply below_drew1 | refine below_set ?_ GE231.out) | exact HB.out))) : w.heap.size ≤ gb237)); have n5_ := Aside0.mk ((by rw [hg]; exact Nat.ne_of_lt (blk_lt (g := gb231) (o := .cells #[.int .i64 a0_0, .slice A0_1 l0_1.length c0_1, .slice (some ad236) l0_2.length c0_2] 25 (0, 0)) (by (with_reducible repeat (first | refine blk_drewN ?_ _ | refine blk_drew ?_ | refine blk_alloc ?_ _)); exact BK231.out)) : gb231 ≠ gb237)); have n6_ := Aside0.mk ((by rw [hg]; exact Nat.ne_of_gt (blk_lt (g := gb231) (o := .cells #[.int .i64 a0_0, .slice A0_1 l0_1.length c0_1, .slice (some ad236) l0_2.length c0_2] 25 (0, 0)) (by (with_reducible repeat (first | refine blk_drewN ?_ _ | refine blk_drew ?_ | refine blk_alloc ?_ _)); exact BK231.out)) : gb237 ≠ gb231)); clear BK231; clear HB; have BK231 := n0_; have HB := n1_; have BK237 := n2_; have GW237 := n3_; have GE237 := n4_; have NB231_237 := n5_; have NB237_231 := n6_; clear n0_ n1_ n2_ n3_ n4_ n5_ n6_; clear hb hbox hg; have hnb63 := NB237_231.out; have hnc63 := NB231_237.out; have hcz64_0 : w62.cell? ⟨gb237, 0, none⟩ = some (.bool false) := (blk_cell BK237.out 0).trans rfl; have hcz64_1 : w62.cell? ⟨gb237, 1, none⟩ = some (.slice none 0 0) := (blk_cell BK237.out 1).trans rfl; have hfz64_0 := blk_frozen BK237.out 0; have hfz64_1 := blk_frozen BK237.out 1))
             repeat (go_quiet (first | ((with_reducible refine gate_dst (N := 5) rfl ?_); refine box_event ?hg (N := 5) ?hd (cs := #[.bool false, .slice none 0 0]) (t := 92) ?hr ?_; (case hd => rfl); (case hg => rfl); (case hr => first | (go_simp; done) | (go_simp; rfl)); intro gb237 hg w62 hbox hb; have n0_ := Aside0.mk (blk_below (g := gb231) (o := .cells #[.int .i64 a0_0, .slice A0_1 l0_1.length c0_1, .slice (some ad236) l0_2.length c0_2] 25 (0, 0)) (by (with_reducible repeat (first | refine blk_drewN ?_ _ | refine blk_drew ?_ | refine blk_alloc ?_ _)); exact BK231.out) hb); have n1_ := Aside0.mk (below_step (by repeat (first | (with_reducible first | exact HB.out | apply below_alloc | apply pw_below_drewN | apply below_drew1 | refine below_set ?_ GE231.out) | exact HB.out)) hb); have n2_ := Aside0.mk (hbox); have n3_ := Aside0.mk ((by rw [hg]; exact (below_size (by repeat (first | (with_reducible first | exact HB.out | apply below_alloc | apply pw_below_drewN | apply below_drew1 | refine below_set ?_ GE231.out) | exact HB.out))) : w.heap.size ≤ gb237)); have n4_ := Aside0.mk ((by rw [hg]; exact (below_size (by repeat (first | (with_reducible first | exact HB.out | apply below_alloc | apply pw_below_drewN | apply below_drew1 | refine below_set ?_ GE231.out) | exact HB.out))) : w.heap.size ≤ gb237)); have n5_ := Aside0.mk ((by rw [hg]; exact Nat.ne_of_lt (blk_lt (g := gb231) (o := .cells #[.int .i64 a0_0, .slice A0_1 l0_1.length c0_1, .slice (some ad236) l0_2.length c0_2] 25 (0, 0)) (by (with_reducible repeat (first | refine blk_drewN ?_ _ | refine blk_drew ?_ | refine blk_alloc ?_ _)); exact BK231.out)) : gb231 ≠ gb237)); have n6_ := Aside0.mk ((by rw [hg]; exact Nat.ne_of_gt (blk_lt (g := gb231) (o := .cells #[.int .i64 a0_0, .slice A0_1 l0_1.length c0_1, .slice (some ad236) l0_2.length c0_2] 25 (0, 0)) (by (with_reducible repeat (first | refine blk_drewN ?_ _ | refine blk_drew ?_ | refine blk_alloc ?_ _)); exact BK231.out)) : gb237 ≠ gb231)); clear BK231; clear HB; have BK231 := n0_; have HB := n1_; have BK237 := n2_; have GW237 := n3_; have GE237 := n4_; have NB231_237 := n5_; have NB237_231 := n6_; clear n0_ n1_ n2_ n3_ n4_ n5_ n6_; clear hb hbox hg; have hnb63 := NB237_231.out; have hnc63 := NB231_237.out; have hcz64_0 : w62.cell? ⟨gb237, 0, none⟩ = some (.bool false) := (blk_cell BK237.out 0).trans rfl; have hcz64_1 : w62.cell? ⟨gb237, 1, none⟩ = some (.slice none 0 0) := (blk_cell BK237.out 1).trans rfl; have hfz64_0 := blk_frozen BK237.out 0; have hfz64_1 := blk_frozen BK237.out 1)); try go_wp2_with (first | ((with_reducible refine gate_dst (N := 5) rfl ?_); refine box_event ?hg (N := 5) ?hd (cs := #[.bool false, .slice none 0 0]) (t := 92) ?hr ?_; (case hd => rfl); (case hg => rfl); (case hr => first | (go_simp; done) | (go_simp; rfl)); intro gb237 hg w62 hbox hb; have n0_ := Aside0.mk (blk_below (g := gb231) (o := .cells #[.int .i64 a0_0, .slice A0_1 l0_1.length c0_1, .slice (some ad236) l0_2.length c0_2] 25 (0, 0)) (by (with_reducible repeat (first | refine blk_drewN ?_ _ | refine blk_drew ?_ | refine blk_alloc ?_ _)); exact BK231.out) hb); have n1_ := Aside0.mk (below_step (by repeat (first | (with_reducible first | exact HB.out | apply below_alloc | apply pw_below_drewN | apply below_drew1 | refine below_set ?_ GE231.out) | exact HB.out)) hb); have n2_ := Aside0.mk (hbox); have n3_ := Aside0.mk ((by rw [hg]; exact (below_size (by repeat (first | (with_reducible first | exact HB.out | apply below_alloc | apply pw_below_drewN | apply below_drew1 | refine below_set ?_ GE231.out) | exact HB.out))) : w.heap.size ≤ gb237)); have n4_ := Aside0.mk ((by rw [hg]; exact (below_size (by repeat (first | (with_reducible first | exact HB.out | apply below_alloc | apply pw_below_drewN | apply below_drew1 | refine below_set ?_ GE231.out) | exact HB.out))) : w.heap.size ≤ gb237)); have n5_ := Aside0.mk ((by rw [hg]; exact Nat.ne_of_lt (blk_lt (g := gb231) (o := .cells #[.int .i64 a0_0, .slice A0_1 l0_1.length c0_1, .slice (some ad236) l0_2.length c0_2] 25 (0, 0)) (by (with_reducible repeat (first | refine blk_drewN ?_ _ | refine blk_drew ?_ | refine blk_alloc ?_ _)); exact BK231.out)) : gb231 ≠ gb237)); have n6_ := Aside0.mk ((by rw [hg]; exact Nat.ne_of_gt (blk_lt (g := gb231) (o := .cells #[.int .i64 a0_0, .slice A0_1 l0_1.length c0_1, .slice (some ad236) l0_2.length c0_2] 25 (0, 0)) (by (with_reducible repeat (first | refine blk_drewN ?_ _ | refine blk_drew ?_ | refine blk_alloc ?_ _)); exact BK231.out)) : gb237 ≠ gb231)); clear BK231; clear HB; have BK231 := n0_; have HB := n1_; have BK237 := n2_; have GW237 := n3_; have GE237 := n4_; have NB231_237 := n5_; have NB237_231 := n6_; clear n0_ n1_ n2_ n3_ n4_ n5_ n6_; clear hb hbox hg; have hnb63 := NB237_231.out; have hnc63 := NB231_237.out; have hcz64_0 : w62.cell? ⟨gb237, 0, none⟩ = some (.bool false) := (blk_cell BK237.out 0).trans rfl; have hcz64_1 : w62.cell? ⟨gb237, 1, none⟩ = some (.slice none 0 0) := (blk_cell BK237.out 1).trans rfl; have hfz64_0 := blk_frozen BK237.out 0; have hfz64_1 := blk_frozen BK237.out 1)))
             go_ret
             exact ⟨by first | rfl | (simp [errW_none, errW_some] <;> rfl) | (simp [*, errW_none, errW_some] <;> rfl), by repeat (first | (with_reducible first | exact HB.out | apply below_alloc | apply pw_below_drewN | apply below_drew1 | refine below_set ?_ GE231.out | refine below_set ?_ GE237.out) | exact HB.out)⟩
           ·rw [if_neg c26] at H
            exact absurd H (by simp)
          ·rw [if_neg c25] at H
           have c25b0 : decide (x4_3 < (l0_2.length : Int)) = false := decide_eq_false c25
           clear c25
           obtain rfl := Option.some.inj H
           have hcz65_0 : wr.cell? ⟨gb231, 0, none⟩ = some (.int .i64 a0_0) := (blk_cell BK231.out 0).trans rfl
           have hcz65_1 : wr.cell? ⟨gb231, 1, none⟩ = some (.slice A0_1 l0_1.length c0_1) := (blk_cell BK231.out 1).trans rfl
           have hcz65_2 : wr.cell? ⟨gb231, 2, none⟩ = some (.slice A0_2 l0_2.length c0_2) := (blk_cell BK231.out 2).trans rfl
           have hfz65_0 := blk_frozen BK231.out 0
           have hfz65_1 := blk_frozen BK231.out 1
           have hfz65_2 := blk_frozen BK231.out 2
           go_wp2
           repeat (go_quiet (fail); try go_wp2)
           go_ret
           exact ⟨by first | rfl | (simp [errW_none, errW_some] <;> rfl) | (simp [*, errW_none, errW_some] <;> rfl), by repeat (first | (with_reducible first | exact HB.out | apply below_alloc | apply pw_below_drewN | apply below_drew1 | refine below_set ?_ GE231.out) | exact HB.out)⟩
    ·rw [if_neg c8] at H
     have c8b0 : ((l0_1.length : Int) == (l0_2.length : Int)) = false := beq_eq_false_iff_ne.mpr c8
     have c8b1 : ((l0_1.length : Int) != (l0_2.length : Int)) = true := bne_iff_ne.mpr c8
     have c8b2 : (l0_1.length == l0_2.length) = false := by first | simpa using c8 | (simp at c8 ⊢; omega)
     obtain rfl := Option.some.inj H
     have hcz66_0 : wc.cell? ⟨gb231, 0, none⟩ = some (.int .i64 a0_0) := (blk_cell BK231.out 0).trans rfl
     have hcz66_1 : wc.cell? ⟨gb231, 1, none⟩ = some (.slice A0_1 l0_1.length c0_1) := (blk_cell BK231.out 1).trans rfl
     have hcz66_2 : wc.cell? ⟨gb231, 2, none⟩ = some (.slice A0_2 l0_2.length c0_2) := (blk_cell BK231.out 2).trans rfl
     have hfz66_0 := blk_frozen BK231.out 0
     have hfz66_1 := blk_frozen BK231.out 1
     have hfz66_2 := blk_frozen BK231.out 2
     go_wp2
     repeat (go_quiet (fail); try go_wp2)
     go_ret
     exact ⟨by first | rfl | (simp [errW_none, errW_some] <;> rfl) | (simp [*, errW_none, errW_some] <;> rfl), by repeat (first | (with_reducible first | exact HB.out | apply below_alloc | apply pw_below_drewN | apply below_drew1 | refine below_set ?_ GE231.out) | exact HB.out)⟩
end Go.Proofs.YtadepdeckapgcaaDoor.PRp
end

section
namespace Go.Proofs.YtadepdeckapgcaaDoor.Rc
open Go.RowKit Go.Proofs.YtadepdeckapgcaaDoorW.PrintWords Go.Proofs.YtadepdeckapgcaaDoorW.PrintLast Go.Proofs.YtadepdeckapgcaaDoorW.PrintMore Go.Proofs.YtadepdeckapgcaaDoor.PRp Go.Proofs.YtadepdeckapgcaaDoor.Orc
set_option linter.unusedSimpArgs false
set_option linter.unusedVariables false
theorem runits_f (n : Int) : logjamref36_units.f n = some (unitsB n) := by
  unfold logjamref36_units.f unitsB
  by_cases h : n > 0
  · rw [if_pos h]; congr 1; rw [decide_eq_decide]; omega
  · rw [if_neg h, decide_eq_false (by omega)]
def prevT (l : List NShare) (i : Nat) : Int := if i = 0 then -1 else (l.getD (i - 1) z108).f0
theorem termL_eq (l : List NShare) : ∀ last e, (e = 0 ∨ e = 1) → termL last e l = if deadC last (l.map (·.f0)) then (if l.all (fun s => unitsB s.f1) then e else 1) else 2 := by
  induction l with
  | nil => intro last e he; simp [termL, deadC]
  | cons s r ih =>
    intro last e he
    rw [termL_cons, List.map_cons, deadC_cons]
    by_cases h : s.f0 ≤ last ∨ 64 ≤ s.f0
    · simp [h]
    · rw [if_neg h, if_neg h, ih _ _ (by split <;> omega), List.all_cons]
      cases unitsB s.f1 <;> simp
theorem ev_rterm_l1 (K : Int) (l : List NShare) (hl : l.length ≤ MX) : ∀ (d i : Nat), i + d = l.length → Ev (fun k => logjamref36_term.l1 k i K l) (if (l.drop i).all (fun s => unitsB s.f1) then 0 else 1) := by
  intro d
  induction d with
  | zero =>
    intro i hi
    rw [List.drop_of_length_le (by omega)]
    exact Ev.step (f := fun _ => some 0) (fun k => by simp only [logjamref36_term.l1]; rw [if_neg (by omega)]) (Ev.now _)
  | succ d ih =>
    intro i hi
    rw [drop_cons' z108 l i (by omega), List.all_cons]
    have hwr := wrap_succ i l.length (by omega) hl
    have hrd : rd_T108 l (i : Int) = l.getD i z108 := rfl
    have ih' := ih (i + 1) (by omega)
    generalize l.getD i z108 = s at *
    cases hu : unitsB s.f1
    · exact Ev.step (f := fun _ => some 1) (fun k => by simp only [logjamref36_term.l1]; rw [if_pos (by omega), if_pos (by omega), hrd, runits_f, hu]; rfl) (Ev.now _)
    · exact Ev.step (f := fun k => logjamref36_term.l1 k ((i + 1 : Nat) : Int) K l) (fun k => by simp only [logjamref36_term.l1]; rw [if_pos (by omega), if_pos (by omega), hrd, runits_f, hu, hwr]; rfl) (by simpa using ih')
theorem ev_rterm_l0 (K : Int) (l : List NShare) (hl : l.length ≤ MX) : ∀ (d i : Nat), i + d = l.length → -1 ≤ prevT l i → Ev (fun k => logjamref36_term.l0 k i K l) (if deadC (prevT l i) ((l.drop i).map (·.f0)) then (if l.all (fun s => unitsB s.f1) then 0 else 1) else 2) := by
  intro d
  induction d with
  | zero =>
    intro i hi _
    rw [List.drop_of_length_le (by omega)]
    refine Ev.step (f := fun k => logjamref36_term.l1 k 0 K l) (fun k => by simp only [logjamref36_term.l0]; rw [if_neg (by omega)]) ?_
    exact ev_rterm_l1 K l hl l.length 0 (by omega)
  | succ d ih =>
    intro i hi hge
    rw [drop_cons' z108 l i (by omega), List.map_cons, deadC_cons]
    have hwr := wrap_succ i l.length (by omega) hl
    have hrd : rd_T108 l (i : Int) = l.getD i z108 := rfl
    have hp : prevT l (i + 1) = (l.getD i z108).f0 := by unfold prevT; simp
    have ih' := ih (i + 1) (by omega)
    rw [hp] at ih'
    have hpv : 0 < i → wrap64 ((i : Int) - 1) = ((i - 1 : Nat) : Int) ∧ (rd_T108 l ((i - 1 : Nat) : Int)).f0 = prevT l i := fun h0 => ⟨wrap_pred i l.length (by omega) hl h0, by unfold prevT; rw [if_neg (by omega)]; rfl⟩
    have hpz : i = 0 → prevT l i = -1 := fun h0 => by unfold prevT; rw [if_pos h0]
    generalize l.getD i z108 = s at *
    generalize prevT l i = p at *
    by_cases h1 : s.f0 < 0
    · rw [if_pos (show s.f0 ≤ p ∨ 64 ≤ s.f0 by omega)]
      exact Ev.step (f := fun _ => some 2) (fun k => by simp only [logjamref36_term.l0]; rw [if_pos (by omega), if_pos (by omega), hrd, if_pos h1]) (Ev.now _)
    by_cases h2 : s.f0 > 63
    · rw [if_pos (show s.f0 ≤ p ∨ 64 ≤ s.f0 by omega)]
      exact Ev.step (f := fun _ => some 2) (fun k => by simp only [logjamref36_term.l0]; rw [if_pos (by omega), if_pos (by omega), hrd, if_neg h1, if_pos h2]) (Ev.now _)
    by_cases h3 : 0 < i
    · obtain ⟨e1, e2⟩ := hpv h3
      by_cases h4 : s.f0 ≤ p
      · rw [if_pos (show s.f0 ≤ p ∨ 64 ≤ s.f0 by omega)]
        exact Ev.step (f := fun _ => some 2) (fun k => by simp only [logjamref36_term.l0]; rw [if_pos (by omega), if_pos (by omega), hrd, if_neg h1, if_neg h2, if_pos (by omega), e1, if_pos (by omega), if_pos (by omega), e2, if_pos h4]) (Ev.now _)
      · rw [if_neg (show ¬ (s.f0 ≤ p ∨ 64 ≤ s.f0) by omega)]
        exact Ev.step (f := fun k => logjamref36_term.l0 k ((i + 1 : Nat) : Int) K l) (fun k => by simp only [logjamref36_term.l0]; rw [if_pos (by omega), if_pos (by omega), hrd, if_neg h1, if_neg h2, if_pos (by omega), e1, if_pos (by omega), if_pos (by omega), e2, if_neg h4, hwr]) (ih' (by omega))
    · have := hpz (by omega)
      rw [if_neg (show ¬ (s.f0 ≤ p ∨ 64 ≤ s.f0) by omega)]
      exact Ev.step (f := fun k => logjamref36_term.l0 k ((i + 1 : Nat) : Int) K l) (fun k => by simp only [logjamref36_term.l0]; rw [if_pos (by omega), if_pos (by omega), hrd, if_neg h1, if_neg h2, if_neg (by omega), hwr]) (ih' (by omega))
theorem ev_rterm (m : NTerm) (hl : m.f1.length ≤ MX) : Ev (fun k => logjamref36_term.f k m.f0 m.f1) (termC m) := by
  unfold logjamref36_term.f termC
  rw [runits_f]
  cases hu : unitsB m.f0
  · exact Ev.congr (f := fun _ => some 1) (fun k => by simp) (Ev.now _)
  · refine Ev.congr (f := fun k => logjamref36_term.l0 k 0 m.f0 m.f1) (fun k => by simp) ?_
    rw [if_pos rfl, termL_eq _ _ _ (.inl rfl)]
    exact ev_rterm_l0 m.f0 m.f1 hl m.f1.length 0 (by omega) (by unfold prevT; simp)
theorem ev_rchk_l3 (time : Int) (dd : List Int) (n : List NNode) (a b : Int) (st : Bool) (ws : List (List NTerm)) (hb0 : 0 ≤ b) (hb1 : b < ws.length) (hw : Bw (rd_L7 ws b)) (r : Int) : ∀ (d i : Nat), i + d = (rd_L7 ws b).length →
    (termsC ((rd_L7 ws b).drop i) ≠ 0 → r = termsC ((rd_L7 ws b).drop i)) → (termsC ((rd_L7 ws b).drop i) = 0 → Ev (fun k => logjamref36_Check.l2 k a (wrap64 (b + 1)) time dd n st ws) r) →
    Ev (fun k => logjamref36_Check.l3 k a b i time dd n st ws) r := by
  intro d
  induction d with
  | zero =>
    intro i hi h1 h2
    rw [List.drop_of_length_le (by omega)] at h1 h2
    exact Ev.step (f := fun k => logjamref36_Check.l2 k a (wrap64 (b + 1)) time dd n st ws) (fun k => by simp only [logjamref36_Check.l3]; rw [if_pos hb0, if_pos hb1, if_neg (by omega)]) (h2 rfl)
  | succ d ih =>
    intro i hi h1 h2
    have ih' := ih (i + 1) (by omega)
    have hdr := drop_cons' z96 (rd_L7 ws b) i (by omega)
    rw [hdr, termsC_cons] at h1 h2
    have hwr := wrap_succ i (rd_L7 ws b).length (by omega) hw.1
    have hrd : rd_T96 (rd_L7 ws b) (i : Int) = (rd_L7 ws b).getD i z96 := rfl
    have hme := ev_rterm _ (hw.2 _ (getD_mem z96 (rd_L7 ws b) i (by omega)))
    have hlt : (i : Int) < ((rd_L7 ws b).length : Int) := by omega
    generalize (rd_L7 ws b).getD i z96 = m at *
    refine Ev.step (f := fun k => (logjamref36_term.f k m.f0 m.f1).bind fun t => if t = 0 then logjamref36_Check.l3 k a b ((i + 1 : Nat) : Int) time dd n st ws else some t) (fun k => by simp only [logjamref36_Check.l3]; rw [if_pos hb0, if_pos hb1, if_pos hlt, if_pos (by omega), hrd, hwr]) ?_
    refine Ev.bind hme ?_
    by_cases ht : termC m = 0
    · rw [if_pos ht] at h1 h2
      exact Ev.congr (f := fun k => logjamref36_Check.l3 k a b ((i + 1 : Nat) : Int) time dd n st ws) (fun k => by rw [if_pos ht]) (ih' h1 h2)
    · rw [if_neg ht] at h1 h2
      rw [h1 ht]
      exact Ev.congr (f := fun _ => some (termC m)) (fun k => by rw [if_neg ht]) (Ev.now _)
theorem ev_rchk_l2 (time : Int) (dd : List Int) (n : List NNode) (a : Int) (st : Bool) (ws : List (List NTerm)) (hw : Bws ws) (r : Int) : ∀ (d i : Nat), i + d = ws.length →
    (waysC (ws.drop i) ≠ 0 → r = waysC (ws.drop i)) → (waysC (ws.drop i) = 0 → Ev (fun k => logjamref36_Check.l1 k (wrap64 (a + 1)) time dd n) r) →
    Ev (fun k => logjamref36_Check.l2 k a i time dd n st ws) r := by
  intro d
  induction d with
  | zero =>
    intro i hi h1 h2
    rw [List.drop_of_length_le (by omega)] at h1 h2
    exact Ev.step (f := fun k => logjamref36_Check.l1 k (wrap64 (a + 1)) time dd n) (fun k => by simp only [logjamref36_Check.l2]; rw [if_neg (by omega)]) (h2 rfl)
  | succ d ih =>
    intro i hi h1 h2
    have ih' := ih (i + 1) (by omega)
    have hdr := drop_cons' [] ws i (by omega)
    rw [hdr, waysC_cons] at h1 h2
    have hwr := wrap_succ i ws.length (by omega) hw.1
    have hrd : rd_L7 ws (i : Int) = ws.getD i [] := rfl
    have hB := hw.2 _ (getD_mem [] ws i (by omega))
    by_cases h : 256 < (ws.getD i []).length
    · rw [if_pos h] at h1
      rw [h1 (by decide)]
      exact Ev.step (f := fun _ => some 4) (fun k => by simp only [logjamref36_Check.l2]; rw [if_pos (by omega), if_pos (by omega), hrd, if_pos (by omega)]) (Ev.now _)
    · rw [if_neg h] at h1 h2
      refine Ev.step (f := fun k => logjamref36_Check.l3 k a i 0 time dd n st ws) (fun k => by simp only [logjamref36_Check.l2]; rw [if_pos (by omega), if_pos (by omega), hrd, if_neg (by omega)]) ?_
      refine ev_rchk_l3 time dd n a i st ws (by omega) (by omega) (by rw [hrd]; exact hB) r (rd_L7 ws i).length 0 (by omega) ?_ ?_
      · intro q
        rw [List.drop_zero, hrd] at *
        rw [if_neg q] at h1
        exact h1 q
      · intro q
        rw [List.drop_zero, hrd] at q
        rw [if_pos q] at h1 h2
        rw [hwr]
        exact ih' h1 h2
theorem ev_rchk_l1 (time : Int) (dd : List Int) (n : List NNode) (hb : Bns n) : ∀ (d i : Nat), i + d = n.length → Ev (fun k => logjamref36_Check.l1 k i time dd n) (nodesC (n.drop i)) := by
  intro d
  induction d with
  | zero =>
    intro i hi
    rw [List.drop_of_length_le (by omega)]
    exact Ev.step (f := fun _ => some 0) (fun k => by simp only [logjamref36_Check.l1]; rw [if_neg (by omega)]) (Ev.now _)
  | succ d ih =>
    intro i hi
    rw [drop_cons' z92 n i (by omega), nodesC_cons]
    have hwr := wrap_succ i n.length (by omega) hb.1
    have hrd : rd_T92 n (i : Int) = n.getD i z92 := rfl
    have hB := hb.2 _ (getD_mem z92 n i (by omega))
    have ih' := ih (i + 1) (by omega)
    generalize n.getD i z92 = x at *
    unfold nodeC
    cases hst : x.f0
    · exact Ev.step (f := fun _ => some 2) (fun k => by simp only [logjamref36_Check.l1]; rw [if_pos (by omega), if_pos (by omega), hrd, hst]; rfl) (Ev.now _)
    · simp only [if_true]
      by_cases h4 : 4 < x.f1.length
      · rw [if_pos h4]
        exact Ev.step (f := fun _ => some 4) (fun k => by simp only [logjamref36_Check.l1]; rw [if_pos (by omega), if_pos (by omega), hrd, hst, if_pos rfl, if_pos (by omega)]) (Ev.now _)
      · rw [if_neg h4]
        refine Ev.step (f := fun k => logjamref36_Check.l2 k i 0 time dd n true x.f1) (fun k => by simp only [logjamref36_Check.l1]; rw [if_pos (by omega), if_pos (by omega), hrd, hst, if_pos rfl, if_neg (by omega)]) ?_
        refine ev_rchk_l2 time dd n i true x.f1 hB _ x.f1.length 0 (by omega) ?_ ?_
        · intro q; rw [List.drop_zero] at *; rw [if_neg q]
        · intro q; rw [List.drop_zero] at q; rw [if_pos q, hwr]; exact ih'
def prevD (l : List Int) (i : Nat) : Int := if i = 0 then -1 else l.getD (i - 1) 0
theorem ev_rchk_l0 (time : Int) (dd : List Int) (hd : dd.length ≤ MX) (n : List NNode) (hb : Bns n) : ∀ (d i : Nat), i + d = dd.length → -1 ≤ prevD dd i → Ev (fun k => logjamref36_Check.l0 k i time dd n) (if deadC (prevD dd i) (dd.drop i) then nodesC n else 2) := by
  intro d
  induction d with
  | zero =>
    intro i hi _
    rw [List.drop_of_length_le (by omega)]
    refine Ev.step (f := fun k => logjamref36_Check.l1 k 0 time dd n) (fun k => by simp only [logjamref36_Check.l0]; rw [if_neg (by omega)]) ?_
    exact ev_rchk_l1 time dd n hb n.length 0 (by omega)
  | succ d ih =>
    intro i hi hge
    rw [drop_cons' 0 dd i (by omega), deadC_cons]
    have hwr := wrap_succ i dd.length (by omega) hd
    have hrd : rd dd (i : Int) = dd.getD i 0 := rfl
    have hp : prevD dd (i + 1) = dd.getD i 0 := by unfold prevD; simp
    have ih' := ih (i + 1) (by omega)
    rw [hp] at ih'
    have hpv : 0 < i → wrap64 ((i : Int) - 1) = ((i - 1 : Nat) : Int) ∧ rd dd ((i - 1 : Nat) : Int) = prevD dd i := fun h0 => ⟨wrap_pred i dd.length (by omega) hd h0, by unfold prevD; rw [if_neg (by omega)]; rfl⟩
    have hpz : i = 0 → prevD dd i = -1 := fun h0 => by unfold prevD; rw [if_pos h0]
    generalize dd.getD i 0 = t at *
    generalize prevD dd i = p at *
    by_cases h1 : t < 0
    · rw [if_pos (show t ≤ p ∨ 64 ≤ t by omega)]
      exact Ev.step (f := fun _ => some 2) (fun k => by simp only [logjamref36_Check.l0]; rw [if_pos (by omega), if_pos (by omega), hrd, if_pos h1]) (Ev.now _)
    by_cases h2 : t > 63
    · rw [if_pos (show t ≤ p ∨ 64 ≤ t by omega)]
      exact Ev.step (f := fun _ => some 2) (fun k => by simp only [logjamref36_Check.l0]; rw [if_pos (by omega), if_pos (by omega), hrd, if_neg h1, if_pos h2]) (Ev.now _)
    by_cases h3 : 0 < i
    · obtain ⟨e1, e2⟩ := hpv h3
      by_cases h4 : t ≤ p
      · rw [if_pos (show t ≤ p ∨ 64 ≤ t by omega)]
        exact Ev.step (f := fun _ => some 2) (fun k => by simp only [logjamref36_Check.l0]; rw [if_pos (by omega), if_pos (by omega), hrd, if_neg h1, if_neg h2, if_pos (by omega), e1, if_pos (by omega), if_pos (by omega), e2, if_pos h4]) (Ev.now _)
      · rw [if_neg (show ¬ (t ≤ p ∨ 64 ≤ t) by omega)]
        exact Ev.step (f := fun k => logjamref36_Check.l0 k ((i + 1 : Nat) : Int) time dd n) (fun k => by simp only [logjamref36_Check.l0]; rw [if_pos (by omega), if_pos (by omega), hrd, if_neg h1, if_neg h2, if_pos (by omega), e1, if_pos (by omega), if_pos (by omega), e2, if_neg h4, hwr]) (ih' (by omega))
    · have := hpz (by omega)
      rw [if_neg (show ¬ (t ≤ p ∨ 64 ≤ t) by omega)]
      exact Ev.step (f := fun k => logjamref36_Check.l0 k ((i + 1 : Nat) : Int) time dd n) (fun k => by simp only [logjamref36_Check.l0]; rw [if_pos (by omega), if_pos (by omega), hrd, if_neg h1, if_neg h2, if_neg (by omega), hwr]) (ih' (by omega))
theorem ev_rchk (time : Int) (dd : List Int) (hd : dd.length ≤ MX) (n : List NNode) (hb : Bns n) : Ev (fun k => logjamref36_Check.f k time dd n) (chkR time dd n) := by
  unfold logjamref36_Check.f chkR
  by_cases h0 : time < 0
  · rw [if_pos (.inl h0)]
    refine Ev.congr (f := fun k => logjamref36_Check.j0 k true time dd n) (fun k => by rw [if_pos h0]) ?_
    exact Ev.step (f := fun _ => some 1) (fun k => by simp only [logjamref36_Check.j0]; rfl) (Ev.now _)
  · refine Ev.congr (f := fun k => logjamref36_Check.j0 k (decide (time > 1073741824)) time dd n) (fun k => by rw [if_neg h0]) ?_
    by_cases h1 : time > 1073741824
    · rw [if_pos (.inr h1), decide_eq_true h1]
      exact Ev.step (f := fun _ => some 1) (fun k => by simp only [logjamref36_Check.j0]; rfl) (Ev.now _)
    · rw [if_neg (by omega), decide_eq_false h1]
      by_cases h2 : dd.length = n.length
      · rw [if_neg (by omega)]
        exact Ev.step (f := fun k => logjamref36_Check.l0 k 0 time dd n) (fun k => by simp only [logjamref36_Check.j0]; rw [if_neg (by simp), if_pos (by omega)]) (ev_rchk_l0 time dd hd n hb dd.length 0 (by omega) (by unfold prevD; simp))
      · rw [if_pos h2]
        exact Ev.step (f := fun _ => some 2) (fun k => by simp only [logjamref36_Check.j0]; rw [if_neg (by simp), if_neg (by omega)]) (Ev.now _)
end Go.Proofs.YtadepdeckapgcaaDoor.Rc
end

section
namespace Go.Proofs.YtadepdeckapgcaaDoor.Rp
open Go.RowKit Go.Proofs.YtadepdeckapgcaaDoorW.PrintWords Go.Proofs.YtadepdeckapgcaaDoor.PRp Go.Proofs.YtadepdeckapgcaaDoor.Orc
set_option linter.unusedVariables false
set_option linter.unusedSimpArgs false
def ShOk (s : S108) : Prop := 0 ≤ s.f0 ∧ s.f0 < 64 ∧ 1 ≤ s.f1 ∧ s.f1 ≤ 1000
def TmOk (m : S96) : Prop := 1 ≤ m.f0 ∧ m.f0 ≤ 1000 ∧ m.f1.length ≤ 64 ∧ ∀ s ∈ m.f1, ShOk s
def WyOk (w : List S96) : Prop := w.length ≤ 256 ∧ ∀ m ∈ w, TmOk m
def NdOk (x : S92) : Prop := x.f0 = true ∧ x.f1.length ≤ 4 ∧ ∀ w ∈ x.f1, WyOk w
theorem units_ok {n : Int} (h : Rc.unitsB n = true) : 1 ≤ n ∧ n ≤ 1000 := by unfold Rc.unitsB at h; exact of_decide_eq_true h
theorem termL_ok : ∀ (l : List S108) (last e : Int), -1 ≤ last → last ≤ 63 → Rc.termL last e l = 0 → e = 0 ∧ (l.length : Int) ≤ 63 - last ∧ ∀ s ∈ l, ShOk s
  | [], last, e, h1, h2, h => ⟨h, by simp; omega, by simp⟩
  | s :: r, last, e, h1, h2, h => by
    rw [Rc.termL_cons] at h
    split at h
    · cases h
    · rename_i hc
      have hc1 : ¬ s.f0 ≤ last := fun q => hc (.inl q)
      have hc2 : ¬ 64 ≤ s.f0 := fun q => hc (.inr q)
      obtain ⟨he, hl, hs⟩ := termL_ok r s.f0 _ (by omega) (by omega) h
      have hu : Rc.unitsB s.f1 = true := by
        cases q : Rc.unitsB s.f1 with
        | true => rfl
        | false => rw [q] at he; simp at he
      rw [hu] at he
      have hv := units_ok hu
      refine ⟨by simpa using he, by simp only [List.length_cons]; omega, fun x hx => ?_⟩
      rcases List.mem_cons.1 hx with rfl | hx
      · exact ⟨by omega, by omega, hv.1, hv.2⟩
      · exact hs x hx
theorem termC_ok (m : S96) (h : Rc.termC m = 0) : TmOk m := by
  unfold Rc.termC at h
  split at h
  · rename_i hu
    obtain ⟨_, hl, hs⟩ := termL_ok m.f1 (-1) 0 (by omega) (by omega) h
    have hv := units_ok hu
    exact ⟨hv.1, hv.2, by omega, hs⟩
  · cases h
theorem termsC_ok : ∀ w : List S96, Rc.termsC w = 0 → ∀ m ∈ w, TmOk m
  | [], _ => by simp
  | m :: r, h => by
    rw [Rc.termsC_cons] at h
    split at h
    · rename_i hm
      intro x hx
      rcases List.mem_cons.1 hx with rfl | hx
      · exact termC_ok x hm
      · exact termsC_ok r h x hx
    · rename_i hm; exact absurd h hm
theorem waysC_ok : ∀ ws : List (List S96), Rc.waysC ws = 0 → ∀ w ∈ ws, WyOk w
  | [], _ => by simp
  | w :: r, h => by
    rw [Rc.waysC_cons] at h
    split at h
    · cases h
    · rename_i hl
      split at h
      · rename_i hm
        intro x hx
        rcases List.mem_cons.1 hx with rfl | hx
        · exact ⟨by omega, termsC_ok x hm⟩
        · exact waysC_ok r h x hx
      · rename_i hm; exact absurd h hm
theorem nodeC_ok (x : S92) (h : Rc.nodeC x = 0) : NdOk x := by
  unfold Rc.nodeC at h
  split at h
  · rename_i h0
    split at h
    · cases h
    · exact ⟨h0, by omega, waysC_ok x.f1 h⟩
  · cases h
theorem nodesC_ok : ∀ n : List S92, Rc.nodesC n = 0 → ∀ x ∈ n, NdOk x
  | [], _ => by simp
  | x :: r, h => by
    rw [Rc.nodesC_cons] at h
    split at h
    · rename_i hm
      intro y hy
      rcases List.mem_cons.1 hy with rfl | hy
      · exact nodeC_ok y hm
      · exact nodesC_ok r h y hy
    · rename_i hm; exact absurd h hm
theorem deadC_ok : ∀ (d : List Int) (last : Int), -1 ≤ last → last ≤ 63 → Rc.deadC last d = true → (d.length : Int) ≤ 63 - last ∧ ∀ t ∈ d, 0 ≤ t ∧ t < 64
  | [], last, h1, h2, _ => ⟨by simp; omega, by simp⟩
  | t :: r, last, h1, h2, h => by
    rw [Rc.deadC_cons] at h
    split at h
    · cases h
    · rename_i hc
      have hc1 : ¬ t ≤ last := fun q => hc (.inl q)
      have hc2 : ¬ 64 ≤ t := fun q => hc (.inr q)
      obtain ⟨hl, hs⟩ := deadC_ok r t (by omega) (by omega) h
      refine ⟨by simp only [List.length_cons]; omega, fun x hx => ?_⟩
      rcases List.mem_cons.1 hx with rfl | hx
      · omega
      · exact hs x hx
structure RpOk (T : Int) (d : List Int) (n : List S92) : Prop where
  t0 : 0 ≤ T
  t1 : T ≤ 1073741824
  len : d.length = n.length
  dl : d.length ≤ 64
  d : ∀ t ∈ d, 0 ≤ t ∧ t < 64
  n : ∀ x ∈ n, NdOk x
theorem chkR_ok {T : Int} {d : List Int} {n : List S92} (h : Rc.chkR T d n = 0) : RpOk T d n := by
  unfold Rc.chkR at h
  split at h
  · cases h
  · rename_i ht
    split at h
    · cases h
    · rename_i hl
      split at h
      · rename_i hd
        obtain ⟨a, b⟩ := deadC_ok d (-1) (by omega) (by omega) hd
        exact ⟨by omega, by omega, by omega, by omega, b, nodesC_ok n h⟩
      · cases h
theorem ShOk.in_ {s : S108} (h : ShOk s) : InS s := by obtain ⟨a, b, c, d⟩ := h; exact ⟨by unfold in64; omega, by unfold in64; omega⟩
theorem TmOk.in_ {m : S96} (h : TmOk m) : InT m := by obtain ⟨a, b, c, d⟩ := h; exact ⟨by unfold in64; omega, by omega, fun s hs => (d s hs).in_⟩
theorem WyOk.in_ {w : List S96} (h : WyOk w) : InW w := ⟨by have := h.1; omega, fun m hm => (h.2 m hm).in_⟩
def waysL : List (List S96) → List UInt8
  | [] => []
  | w :: r => (wayP w).data.toList ++ waysL r
def bodyL : List Int → List S92 → List UInt8
  | t :: d, x :: n => ((sThread ++ itB t) ++ sNl).data.toList ++ (waysL x.f1 ++ bodyL d n)
  | _, _ => []
def textL (T : Int) (d : List Int) (n : List S92) : List UInt8 := ((sReport ++ itB T) ++ sNl).data.toList ++ (bodyL d n ++ [101, 110, 100, 10])
theorem wayP_size (w : List S96) (hw : InW w) : (wayP w).size ≤ 60000000 := by
  unfold wayP
  split
  · decide
  · have q := joinB_size 52000 sPlus (w.map termB) (fun x hx => by
      obtain ⟨y, hy, rfl⟩ := List.mem_map.1 hx
      exact termB_size y (hw.2 y hy))
    rw [List.length_map, show sPlus.size = 3 from rfl] at q
    have hl := hw.1
    have e1 : sWay.size = 6 := rfl
    have e2 : sNl.size = 1 := rfl
    rw [ByteArray.size_append, ByteArray.size_append, e1, e2]
    omega
theorem waysL_len : ∀ ws : List (List S96), (∀ w ∈ ws, InW w) → (waysL ws).length ≤ 60000000 * ws.length
  | [], _ => by simp [waysL]
  | w :: r, h => by
    have a := wayP_size w (h w (by simp))
    have b := waysL_len r (fun x hx => h x (by simp [hx]))
    rw [Lib.size_eq] at a
    simp only [waysL, List.length_append, List.length_cons]
    omega
theorem bodyL_len : ∀ (d : List Int) (n : List S92), (∀ t ∈ d, in64 t) → (∀ x ∈ n, NdOk x) → (bodyL d n).length ≤ 250000000 * d.length
  | [], _, _, _ => by simp [bodyL]
  | t :: d, [], _, _ => by simp [bodyL]
  | t :: d, x :: n, hd, hn => by
    have a := itB_size t (hd t (by simp))
    have hx := hn x (by simp)
    have b := waysL_len x.f1 (fun w hw => (hx.2.2 w hw).in_)
    have c := bodyL_len d n (fun y hy => hd y (by simp [hy])) (fun y hy => hn y (by simp [hy]))
    have e : ((sThread ++ itB t) ++ sNl).data.toList.length = 7 + (itB t).size + 1 := by rw [← Lib.size_eq, ByteArray.size_append, ByteArray.size_append]; rfl
    have h4 := hx.2.1
    simp only [bodyL, List.length_append, List.length_cons]
    rw [e]
    omega
theorem textL_len {T : Int} {d : List Int} {n : List S92} (h : RpOk T d n) : (textL T d n).length ≤ 17000000000 := by
  have a := itB_size T (by have := h.t0; have := h.t1; unfold in64; omega)
  have b := bodyL_len d n (fun t ht => by have := h.d t ht; unfold in64; omega) h.n
  have e : ((sReport ++ itB T) ++ sNl).data.toList.length = 7 + (itB T).size + 1 := by rw [← Lib.size_eq, ByteArray.size_append, ByteArray.size_append]; rfl
  have hl := h.dl
  unfold textL
  simp only [List.length_append, List.length_cons, List.length_nil]
  rw [e]
  omega
end Go.Proofs.YtadepdeckapgcaaDoor.Rp
end
